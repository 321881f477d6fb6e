/- Norms of root vectors: the program's sums and the reference's are equal modulo 2^64. Plain lists. -/
import Derived.Test.YtiohpndgemonjaaGreatJGSy
import Derived.Test.YtiohpndgemonjaaGreatJGGt
import Derived.Shelf.RegionOpenPlain
namespace Go.Proofs.YtiohpndgemonjaaGreat
open Go.RowKit
theorem zQQ (a b:Int):wrap64 (wrap64 a+wrap64 b)=wrap64 (a+b):=by unfold wrap64; omega
def smI (f:Nat→Int):Nat→Int
 | 0=>0
 | k+1=>smI f k+f k
def prI (l r:List Int):Nat→Int
 | 0=>0
 | k+1=>wrap64 (prI l r k+wrap64 (num l k*num r k))
theorem zMJ (l r:List Int):∀k,prI l r k=wrap64 (smI (fun j=>num l j*num r j) k)
 | 0=>by simp [prI,smI,wrap64]
 | k+1=>by simp only [prI,smI]; rw [zMJ l r k,zQQ]
set_option maxRecDepth 20000
set_option maxHeartbeats 8000000
theorem zFU {S S':Nat→Prop} {u v:Value} {l r:List Int} {w:World} (h:RI S w u l) (h':RI S' w v r) (hlr:r.length≤l.length) (hl:r.length≤16777216) :
  Calls Tryz.prog 83 #[u,v] w fun e w'=>e=.returned (.int .i64 (prI l r r.length))∧∃m,w'=w.drewN m:=by
 obtain ⟨a,cap,rfl⟩:=h.form;obtain ⟨a',cap',rfl⟩:=h'.form;have HL:Hid (∀k x y,l[k]? = some x→r[k]? = some y→prI l r (k+1)=wrap64 (prI l r k+wrap64 (x*y))):=zQe (fun k x y h1 h2=>by simp only [prI]; rw [zAe h1,zAe h2]);have H0:Hid (prI l r 0=0):=zQe rfl;generalize hn:l.length=n at *;generalize hn':r.length=m at *;clear hn hn';have mixed:Tryz.prog.follows .mixedOrders=true:=by kernel_rfl
 go_enter Tryz.func83,Tryz.ntmps83
 go_wp2_with fail
 go_loopw [5,10] (fun s i wr=>∃(k d:Nat) (t:Int),k≤m∧s=.int .i64 t∧i=.int .i64 k∧wr=w.drewN d∧Hid (prI l r k=t)) (fun _ i _=>m-(intOf i).toNat)
 case atStart=>exact ⟨0,0,0,Nat.zero_le _,rfl,rfl,rfl,H0⟩
 case round =>
  obtain ⟨k,d,t,hk,rfl,rfl,rfl,HT⟩:=hrel;by_cases hlt:k<m
  ·obtain ⟨b,o,x,rfl,hc,hx⟩:=h.at (show k<n by omega);obtain ⟨b',o',y,rfl,hc',hy⟩:=h'.at hlt;have b1:(k:Int)<(m:Int):=by omega
   have b2:(k:Int)<(n:Int):=by omega
   have b3:(0:Int)≤(k:Int):=by omega
   have HT2:=zQe (HL.out k x y hx.out hy.out);rw [HT.out] at HT2;clear hx hy;go_wp2_with fail
   first | go_quiet (fail) | skip
   go_wp2_with fail
   go_roundw
   case rel=>first | exact ⟨k+1,_,_,by omega,rfl,by go_num,rfl,HT2⟩ | exact ⟨k+1,d+nq,_,by omega,rfl,by go_num,by simp,HT2⟩
   case measure=>simp [intOf]; omega
  ·have b1:¬(k:Int)<(m:Int):=by omega
   have hkm:k=m:=by omega
   have HR:Hid (t=prI l r m):=zQe (by rw [<-HT.out,hkm]);clear hkm;go_wp2_with fail
   go_ret
   exact ⟨zAQ HR.out,d,rfl⟩
end Go.Proofs.YtiohpndgemonjaaGreat
