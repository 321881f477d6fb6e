/- 'append' to a slice of numbers whose block lies beyond a bound. Condition: at most 2^26 numbers. -/
import Derived.Test.YtiohpndgemonjaaGreatJGVec
namespace Go.Proofs.YtiohpndgemonjaaGreat
open Go.RowKit
set_option maxRecDepth 20000
section
variable {w:World} {ops:Array Oper} {rest:List Oper} {o:Oper} {a:Act} {Q:Exit→Act→World→Prop}
theorem FI.of_rowB {w':World} {B:Nat} {v:Value} {l:List Int} {n:Nat} {xs:List Value} (h:w'.ownsRow B 3 1 v n xs) (hn:n=l.length) (hx:xs=l.map (Value.int .i64)):FI (Bt B w'.heap.size) w' v l:=by
 subst hn;subst hx;refine ⟨zCE h (Nat.zero_le _),fun b hb=>?_⟩;obtain ⟨h1,h2⟩:=h.lt b hb;exact ⟨h1,h2⟩
theorem zJj {S:Nat→Prop} {B:Nat} (hgd:o.guard=none) (s x:Operand)
  (ho:o.op=.call { callee:=.builtin .append,args:=#[s,x],argTypes:=#[25,25] })
  {v:Value} {l l2:List Int} (hs:a.eval s=v) (hf:FI (Bt B w.heap.size) w v l) (hB:B≤w.heap.size)
  {sa:Option Addr} {m c:Nat} (hx:a.eval x=.slice sa m c) (hr:RI S w (.slice sa m c) l2) (hlen:l.length+l2.length≤67108864)
  (h:∀v' w',FI (Bt B w'.heap.size) w' v' (l++l2)→Below B w w'→w.grownBy w' v.ownBlock→wpList Tryz.prog ops Q rest (a.put o.dst v') w'):wpList Tryz.prog ops Q (o::rest) a w:=by
 obtain ⟨i0,hi,hz0,hz1,hz2⟩:=info_parts zBV;obtain ⟨hown,hS⟩:=hf;obtain ⟨a',cap',hv,hcap,hcase⟩:=hr;simp only [Value.slice.injEq] at hv;obtain ⟨rfl,rfl,rfl⟩:=hv;have hown':w.ownsRow B 3 1 v l.length (l.map (Value.int .i64)):=by
  refine ⟨hown.1,?_⟩;rcases hown.2 with h | ⟨g,cap,cur,hv,_,r⟩
  ·exact .inl h
  ·exact .inr ⟨g,cap,cur,hv,(hS g (by rw [hv]; rfl)).1,r⟩
 have fin:∀v' w',w'.ownsRow B 3 1 v' (l.length+l2.length) (l.map (Value.int .i64)++l2.map (Value.int .i64))→w.grownBy w' v.ownBlock→wpList Tryz.prog ops Q rest (a.put o.dst v') w':=by
  intro v' w' h1 h2;have hb':Below B w w':=(Below.refl B w).grown h2 hB (fun k hk=>(hS k hk).1);exact h v' w' (FI.of_rowB h1 (by simp) (by simp)) hb' h2
 cases sa with
 | none =>
  have h0:l2=[]:=by
   rcases hcase with h | ⟨b,o,ha,_⟩
   ·exact h
   ·cases ha
  subst h0;have hrun:=zCR (w:=w) B 25 o.type 3 i0 1 Tryz.underlying25 hi v l.length c _ hown';have fin':=fin v w (by simpa using hown') (World.grownBy.refl _ _);clear fin h hS hown;refine wpList_plain hgd fun K hK=>?_;unfold Oper.wp;rw [show ([]:List Int).length=0 from rfl] at hx;simp [execOp,ho,resolve,invoke,builtin,hs,hx,hrun,Result.andThen];exact hK _ _ fin'
 | some ad =>
  refine wpList_append_own w hgd s x 25 ho B 3 i0 (.int .i64 0) 1 8 Tryz.underlying25 hi hz0 hz1 hz2 rfl (by decide) v l.length (l.map (Value.int .i64)) hs hown' ad l2.length c (l2.map (Value.int .i64)) hx (by simp) ?_ ?_ ?_ ?_ hB (fun v' w' h1 h2 _=>fin v' w' h1 h2)
  ·intro j u hj;rcases hcase with h | ⟨b,o,ha,_,_,hc⟩
   ·subst h; simp at hj
   ·simp only [Option.some.injEq] at ha;subst ha;rw [List.getElem?_map] at hj;obtain ⟨x,hx1,hx2⟩:=Option.map_eq_some_iff.1 hj;obtain ⟨r,h1,h2⟩:=hc j x hx1;have hadd:(⟨b,o,none⟩:Addr).add j=⟨b,o+j,none⟩:=by unfold Addr.add; split <;> simp_all
    rw [hadd,h1,<-hx2];exact congrArg some h2
  ·intro u hu;obtain ⟨x,_,rfl⟩:=List.mem_map.1 hu;rfl
  ·unfold maxLen; omega
  ·omega
end
end Go.Proofs.YtiohpndgemonjaaGreat
namespace Go.Proofs.YtiohpndgemonjaaGreat
open Go.RowKit
set_option maxRecDepth 20000
set_option maxHeartbeats 8000000
theorem zFP {v:List Int} {k:Nat} {x:Int} (h:v[k]? = some x) (hx:¬x<0):zAD (v.drop k)=(zAD (v.drop (k+1))).map (· + 1):=by
 rw [zAC h]; simp [zAD,hx]
theorem zGF {v:List Int} {k:Nat} {x:Int} (h:v[k]? = some x) (hx:x<0):zAD (v.drop k)=some 0:=by
 rw [zAC h]; simp [zAD,hx]
def lenV:Value→Nat
 | .slice _ n _=>n
 | _=>0
def fd (v:List Int):Int:=match zAD v with
 | none=>-1
 | some i=>i
theorem zFi {S:Nat→Prop} {v:Value} {l:List Int} {w:World} (h:RI S w v l) (hl:l.length≤16777216) :
  Calls Tryz.prog 41 #[v] w fun e w'=>e=.returned (.int .i64 (fd l))∧w'=w:=by
 obtain ⟨a,cap,rfl⟩:=h.form;have HR:Hid ((zAD (l.drop 0)).map (· + 0)=zAD l):=zQe (by simp);have HE:Hid (zAD (l.drop l.length)=none):=zQe (by simp [zAD]);have HF:Hid (∀i,zAD l=some i→fd l=i):=zQe (by intro i h; simp [fd,h]);have HG:Hid (zAD l=none→fd l = -1):=zQe (by intro h; simp [fd,h]);generalize fd l=res at *;generalize hn:l.length=n at *;have HN:=zQe hn;clear hn;go_enter Tryz.func41,Tryz.ntmps41
 go_wp2_with fail
 go_loop [7] (fun j=>∃(k:Nat),k≤n∧j=.int .i64 k∧Hid ((zAD (l.drop k)).map (· + k)=zAD l)) (fun j=>n-(intOf j).toNat)
 case atStart=>exact ⟨0,Nat.zero_le _,rfl,HR⟩
 case round =>
  obtain ⟨k,hk,rfl,HK⟩:=hrel;by_cases hlt:k<n
  ·obtain ⟨b,o,x,rfl,hc,hx⟩:=h.at hlt;by_cases hx0:x<0
   ·have e0:Hid (res=(k:Int)):=zQe (HF.out k (by rw [<-HK.out,zGF hx.out hx0]; simp));go_wp2_with fail
    go_ret
    exact ⟨zAQ e0.out.symm,rfl⟩
   ·have HK2:Hid ((zAD (l.drop (k+1))).map (· + (k+1))=zAD l):=zQe (by
     rw [<-HK.out,zFP hx.out hx0,Option.map_map];congr 1;funext j;simp only [Function.comp_apply];omega)
    go_wp2_with fail
    go_round
    case rel=>exact ⟨k+1,by omega,by go_num,HK2⟩
    case measure=>simp [intOf]; omega
  ·have hkn:k=n:=by omega
   have e0:Hid (res = -1):=zQe (HG.out (by rw [<-HK.out,hkn,HE.out]; rfl));go_wp2_with fail
   go_ret
   exact ⟨zAQ e0.out.symm,rfl⟩
end Go.Proofs.YtiohpndgemonjaaGreat
