/- Lists of arrows in memory, three numbers each, in a row of the call's own. No condition. -/
import Derived.Test.YtlgcdacpjcnjgaaGreatDoorJGKzB
namespace Go.Proofs.YtlgcdacpjcnjgaaGreatDoor
open Go.RowKit
set_option maxRecDepth 20000
abbrev Arw:=Nat × Nat × Int
def zCY (L:List Arw):List Int:=L.flatMap fun a=>[(a.1:Int),(a.2.1:Int),a.2.2]
theorem zMJ (L M:List Arw):zCY (L++M)=zCY L++zCY M:=by unfold zCY; simp
theorem zDX:∀{L:List Arw} {k:Nat} {a:Arw},L[k]? = some a→(zCY L)[k*3]? = some (a.1:Int)∧(zCY L)[k*3+1]? = some (a.2.1:Int)∧(zCY L)[k*3+2]? = some a.2.2
 | [],k,a,h=>by simp at h
 | b::L,0,a,h=>by simp at h; subst h; exact ⟨rfl,rfl,rfl⟩
 | b::L,k+1,a,h=>by
  obtain ⟨h1,h2,h3⟩:=zDX (L:=L) (k:=k) (a:=a) (by simpa using h);have e:zCY (b::L)=(b.1:Int)::(b.2.1:Int)::b.2.2::zCY L:=rfl;rw [e,show (k+1)*3=k*3+1+1+1 by omega,show k*3+1+1+1+1=k*3+1+1+1+1 by rfl,show k*3+1+1+1+2=k*3+2+1+1+1 by omega];simp only [List.getElem?_cons_succ];exact ⟨h1,h2,h3⟩
def F3 (S:Nat→Prop) (w:World) (v:Value) (n:Nat) (xs:List Int):Prop:=w.ownsRow 0 39 3 v n (xs.map (Value.int .i64))∧∀b,v.ownBlock=some b→S b
abbrev FA (S:Nat→Prop) (w:World) (v:Value) (L:List Arw):Prop:=F3 S w v L.length (zCY L)
abbrev RA:=FA
section
variable {S S':Nat→Prop} {w w':World} {v:Value} {n:Nat} {xs:List Int} {L:List Arw}
theorem F3.keep (h:F3 S w v n xs) (hb:∀b,S b→b<w.heap.size→w'.heap[b]? = w.heap[b]?):F3 S w' v n xs:=⟨zAk h.1 fun b hv=>hb b (h.2 b hv) (h.1.lt b hv).2,h.2⟩
theorem F3.below (h:F3 S w v n xs) (hb:Below w.heap.size w w'):F3 S w' v n xs:=h.keep fun b _ hl=>hb.block b hl
theorem F3.only (h:F3 S w v n xs) (k:Only S' w w') (hd:∀b,S b→¬S' b):F3 S w' v n xs:=h.keep fun b hs _=>k.block b (hd b hs)
theorem F3.mono (h:F3 S w v n xs) (hS:∀b,S b→S' b):F3 S' w v n xs:=⟨h.1,fun b hb=>hS b (h.2 b hb)⟩
theorem F3.any (h:F3 S w v n xs):F3 Any w v n xs:=h.mono fun _ _=>trivial
theorem RA.old (h:RA S w v L):RA (Bt 0 w.heap.size) w v L:=⟨h.1,fun b hb=>⟨Nat.zero_le _,(h.1.lt b hb).2⟩⟩
theorem F3.form (h:F3 S w v n xs):∃a cap,v=.slice a n cap:=by
 rcases h.1.2 with ⟨rfl,h0⟩ | ⟨g,cap,cur,rfl,_⟩
 ·exact ⟨none,0,by rw [h0]⟩
 ·exact ⟨_,_,rfl⟩
theorem F3.head {a:Option Addr} {cap:Nat} (h:F3 S w (.slice a n cap) n xs) (h0:0<n):∃g,a=some ⟨g,0,none⟩∧S g:=by
 rcases h.1.2 with ⟨hv,h1⟩ | ⟨g,cap',cur,hv,_⟩
 ·omega
 ·simp only [Value.slice.injEq] at hv;obtain ⟨rfl,_,rfl⟩:=hv;exact ⟨g,rfl,h.2 g rfl⟩
theorem F3.len (h:F3 S w v n xs):xs.length=n*3:=by have:=h.1.1; simpa using this
theorem F3.cell {g cap:Nat} (h:F3 S w (.slice (some ⟨g,0,none⟩) n cap) n xs) {j:Nat} {x:Int} (hx:xs[j]? = some x):w.cell? ⟨g,j,none⟩=some (.int .i64 x):=by
 have hl:=h.len;have hj:=(zTG hx).1;rw [h.1.cellAt j (by omega),List.getElem?_map,hx]; rfl
theorem F3.froz {g cap:Nat} (h:F3 S w (.slice (some ⟨g,0,none⟩) n cap) n xs) (j:Nat):w.frozen? ⟨g,j,none⟩=false:=h.1.frozenAt j
theorem F3.put {g cap:Nat} (h:F3 S w (.slice (some ⟨g,0,none⟩) n cap) n xs) (j:Nat) (x:Int):F3 S (w.setCell ⟨g,j,none⟩ (.int .i64 x)) (.slice (some ⟨g,0,none⟩) n cap) n (xs.set j x):=by
 refine ⟨?_,h.2⟩;have:=(h.1.stored j (.int .i64 x)).1;rw [List.map_set]; exact this
theorem F3.at {a:Option Addr} {cap:Nat} (h:F3 S w (.slice a n cap) n xs) {k:Nat} (hk:k<n):∃g x y z,a=some ⟨g,0,none⟩∧w.cell? ⟨g,k*3,none⟩=some (.int .i64 x)∧w.cell? ⟨g,k*3+1,none⟩=some (.int .i64 y)∧w.cell? ⟨g,k*3+2,none⟩=some (.int .i64 z) ∧
  Hid (xs[k*3]? = some x∧xs[k*3+1]? = some y∧xs[k*3+2]? = some z):=by
 obtain ⟨g,rfl,_⟩:=h.head (by omega);have hl:=h.len;have e0:xs[k*3]? = some (xs[k*3]'(by omega)):=zTE _;have e1:xs[k*3+1]? = some (xs[k*3+1]'(by omega)):=zTE _;have e2:xs[k*3+2]? = some (xs[k*3+2]'(by omega)):=zTE _;exact ⟨g,_,_,_,rfl,h.cell e0,h.cell e1,h.cell e2,zTD ⟨e0,e1,e2⟩⟩
end
abbrev aA (v:Value) (L:List Arw):zAI:=fun F w=>FA F w v L
theorem st_A (v:Value) (L:List Arw):zAg (aA v L):=fun _ _ _ h k=>F3.keep h k
theorem zMX:(Tryz.prog.info? 39).map (fun i=>(i.zero,i.size,i.bytes))=some (some (.agg #[.int .i64 0,.int .i64 0,.int .i64 0]),3,24):=by kernel_rfl
section
variable {A:Nat→Prop} {w0 w w':World} {Ps:List zAI}
theorem HS.Ar {v:Value} {L:List Arw} (h:HS w0 w Ps) (i:Nat) (hi:Ps[i]? = some (aA v L)):FA (New w0 w) w v L:=let ⟨_,h1,h2⟩:=h.get i hi; F3.mono h1 (fun b hb=>⟨(h2 b hb).1,(h2 b hb).2⟩)
theorem zIm (h:HSx A w0 w Ps) {w1:World} (hw:w1=w.alloc (.cells #[] 39)):HSx A w0 w1 (Ps++[aA (.slice (some ⟨w.heap.size,0,none⟩) 0 0) []]):=by
 subst hw;refine h.add ((Below.refl _ w).alloc (zTI _) _) (st_A _ _) (F:=fun b=>b=w.heap.size) ⟨?_,fun b hb=>by simpa [Value.ownBlock] using hb.symm⟩ (fun b hb=>by subst hb; exact ⟨zTI _,by simp⟩);have:=World.ownsRow_lit (base:=0) (e:=39) (size:=3) w #[] 0 (Nat.zero_le _) (by unfold maxLen; omega) rfl;exact this
end
section
variable {w:World} {ops:Array Oper} {rest:List Oper} {o:Oper} {a:Act} {Q:Exit→Act→World→Prop}
theorem zGs {W:World} {Ps:List zAI} (hgd:o.guard=none) (s x:Operand)
  (ho:o.op=.call { callee:=.builtin .append,args:=#[s,x],argTypes:=#[35,35] })
  {v:Value} {L:List Arw} {y:Arw} (hs:a.eval s=v) (h:HS W w Ps) (i:Nat) (hi:Ps[i]? = some (aA v L))
  {H:Nat} (hx:a.eval x=.slice (some ⟨H,0,none⟩) 1 1) (hc0:w.cell? ⟨H,0,none⟩=some (.int .i64 y.1)) (hc1:w.cell? ⟨H,1,none⟩=some (.int .i64 y.2.1)) (hc2:w.cell? ⟨H,2,none⟩=some (.int .i64 y.2.2)) (hlen:L.length+1≤67108864)
  (k:∀v' w',HS W w' (Ps.set i (aA v' (L++[y])))→wpList Tryz.prog ops Q rest (a.put o.dst v') w'):wpList Tryz.prog ops Q (o::rest) a w:=by
 refine wpList_plain hgd fun _ hK=>?_;have hf:=h.Ar i hi;refine zDP s x Tryz.underlying35 zMX rfl (by decide) ho (base:=0) (news:=[.int .i64 y.1,.int .i64 y.2.1,.int .i64 y.2.2]) hs hf.1 (Nat.zero_le _) hx rfl ?_ (by intro u hu; simp at hu; rcases hu with rfl | rfl | rfl <;> rfl) (by omega) (by decide) ?_
 ·intro j u hj
  match j,hj with
  | 0,hj=>simp at hj; subst hj; simpa [Addr.add] using hc0
  | 1,hj=>simp at hj; subst hj; simpa [Addr.add] using hc1
  | 2,hj=>simp at hj; subst hj; simpa [Addr.add] using hc2
 ·intro v' w' h2 h3 h4;refine hK _ _ (k v' w' (h.upd i hi (st_A _ _) (zBA h.bl h3 (fun b hb=>(hf.2 b hb).1)) h3.size fun F hF _=>⟨fun b=>v'.ownBlock=some b,⟨?_,fun b hb=>hb⟩,fun b hb=>?_,fun b hl hb=>h3.block b hl (fun e=>hb (hF.2 b e.symm))⟩))
  ·rw [List.length_append,zMJ,List.map_append]; exact h2
  ·rcases h4 b hb with e | e
   ·exact .inl (hF.2 b e)
   ·exact .inr ⟨e,(h2.lt b hb).2⟩
end
end Go.Proofs.YtlgcdacpjcnjgaaGreatDoor
namespace Go.Proofs.YtlgcdacpjcnjgaaGreatDoor
open Go.RowKit
set_option maxRecDepth 20000
section
variable (E:List (List Int)) (tab:Nat→Nat→Nat) (r:Nat) (R:List (List (List Int)))
def mI (i j:Nat):Int:=muI (zAA R j i) ((lenE E j:Int)-lenE E i)+muI (zAA R i j) ((lenE E i:Int)-lenE E j)
def mS (i j:Nat):Int:=if lenE E j<lenE E i then muS (zAA R i j) ((lenE E i:Int)-lenE E j) else muS (zAA R j i) ((lenE E j:Int)-lenE E i)
theorem zS3 (i j:Nat):mI E R i j=mS E R i j:=by
 unfold mI mS;by_cases h:lenE E j<lenE E i
 ·rw [if_pos h,zDL _ (by omega),zG0]; omega
 ·rw [if_neg h,zDL (zAA R i j) (by omega),zG0]; omega
theorem zMr {p:List Int} (h:InI p) (d:Int):-9223372036854775808≤muI p d∧muI p d≤9223372036854775807:=by
 unfold muI;split
 ·omega
 ·exact h.num _
def dB (i j:Nat):Bool:=(List.range r).any fun s=>decide (lenE E (tab j s)<lenE E j) && !decide (lenE E (tab i s)<lenE E i)
def wgA (i j:Nat):List Arw:=if mI E R i j≠0∧dB E tab r i j=true then [(i,j,mI E R i j)] else []
def wgJ (i n:Nat):List Arw:=(List.range n).flatMap (wgA E tab r R i)
def wgL (n:Nat):List Arw:=(List.range n).flatMap fun i=>wgJ E tab r R i E.length
theorem zGA (i n:Nat):wgJ E tab r R i (n+1)=wgJ E tab r R i n++wgA E tab r R i n:=by unfold wgJ; rw [List.range_succ]; simp
theorem zGB (n:Nat):wgL E tab r R (n+1)=wgL E tab r R n++wgJ E tab r R n E.length:=by unfold wgL; rw [List.range_succ]; simp
theorem zHC (i n:Nat):(wgJ E tab r R i n).length≤n:=by
 induction n with
 | zero=>simp [wgJ]
 | succ n ih =>
  rw [zGA,List.length_append];have:(wgA E tab r R i n).length≤1:=by unfold wgA; split <;> simp
  omega
theorem zHD (n:Nat):(wgL E tab r R n).length≤n*E.length:=by
 induction n with
 | zero=>simp [wgL]
 | succ n ih =>
  rw [zGB,List.length_append,Nat.succ_mul];have:=zHC E tab r R n E.length;omega
theorem zSp {n:Nat} (hn:n≤E.length):∀a∈wgL E tab r R n,a.1<E.length∧a.2.1<E.length:=by
 intro a ha;unfold wgL wgJ at ha;obtain ⟨i,hi,ha⟩:=List.mem_flatMap.1 ha;obtain ⟨j,hj,ha⟩:=List.mem_flatMap.1 ha;have hi:=List.mem_range.1 hi;have hj:=List.mem_range.1 hj;unfold wgA at ha;split at ha
 ·rw [List.mem_singleton] at ha;subst ha;exact ⟨by simp; omega,hj⟩
 ·simp at ha
end
def ldL (c:List (List Int)) (x:List Int):List Int:=((List.range c.length).filter fun s=>decide (num (zAF c x) s<0)).map fun (s:Nat)=>(s:Int)
def insB (a b:List Int):Bool:=a.all fun x=>hasI x b
theorem zEE {x:Int}:∀{l:List Int},hasI x l=true↔x∈l
 | []=>by simp [hasI]
 | y::l=>by
  unfold hasI;by_cases h:y=x
  ·rw [if_pos h]; simp [h]
  ·rw [if_neg h,zEE];simp [Ne.symm h]
theorem zKL {c:List (List Int)} (K:KlOk c) {z s:Nat} (hz:z<(elL c).length) (hs:s<c.length) :
  num (zAF c (getE (elL c) z)) s<0↔lenE (elL c) (tabE c (elL c) z s)<lenE (elL c) z:=by
 obtain ⟨x,hx,hN,hl,_⟩:=K.at hz;have e:=zCS hx;have hc:=K.cart;have hle:=hN.le;have him:=zAa hc hN.lets (by omega);have h1:=zSa hc him (by omega) hs;have hm:zAD c ((s:Int)::x)∈elL c:=(K.nf _).2 (zDM K.fin hN hs).1;have h2:lenE (elL c) (tabE c (elL c) z s)=(zAD c ((s:Int)::x)).length:=by
  unfold lenE tabE;rw [e,(zCo hm).2]; rfl
 have h3:nf c 30 (zAF c x)=x:=hN.nf;have h4:nf c 30 (refl c s (zAF c x))=zAD c ((s:Int)::x):=by
  unfold zAD;congr 1
 rw [h3,h4] at h1;rw [e,h2,hl];constructor
 ·exact h1.1
 ·intro h;rcases Int.lt_or_le (num (zAF c x) s) 0 with h5 | h5
  ·exact h5
  ·exact absurd h (h1.2 (by omega))
theorem zSS {c:List (List Int)} (K:KlOk c) {i k:Nat} (hi:i<(elL c).length) (hk:k<(elL c).length) :
  (!insB (ldL c (getE (elL c) k)) (ldL c (getE (elL c) i)))=dB (elL c) (tabE c (elL c)) c.length i k:=by
 have hmem:∀z,z<(elL c).length→∀s:Nat,(s:Int)∈ldL c (getE (elL c) z)↔s<c.length∧lenE (elL c) (tabE c (elL c) z s)<lenE (elL c) z:=fun z hz s=>by
  unfold ldL;rw [List.mem_map];constructor
  ·rintro ⟨t,ht,e⟩;have e:t=s:=by omega
   subst e;rw [List.mem_filter,List.mem_range,decide_eq_true_eq] at ht;exact ⟨ht.1,(zKL K hz ht.1).1 ht.2⟩
  ·rintro ⟨h1,h2⟩;exact ⟨s,by rw [List.mem_filter,List.mem_range,decide_eq_true_eq]; exact ⟨h1,(zKL K hz h1).2 h2⟩,rfl⟩
 rw [Bool.eq_iff_iff,Bool.not_eq_true',<-Bool.not_eq_true];unfold insB dB;rw [List.all_eq_true,List.any_eq_true];constructor
 ·intro h;rw [Classical.not_forall] at h;obtain ⟨x,hx⟩:=h;rw [Classical.not_imp,zEE] at hx;have hx1:=hx.1;unfold ldL at hx1;obtain ⟨s,hs,rfl⟩:=List.mem_map.1 hx1;obtain ⟨h1,h2⟩:=(hmem k hk s).1 hx.1;refine ⟨s,List.mem_range.2 h1,?_⟩;rw [Bool.and_eq_true,decide_eq_true_eq,Bool.not_eq_true',decide_eq_false_iff_not];exact ⟨h2,fun h3=>hx.2 ((hmem i hi s).2 ⟨h1,h3⟩)⟩
 ·rintro ⟨s,hs,h⟩ hall;have hs:=List.mem_range.1 hs;rw [Bool.and_eq_true,decide_eq_true_eq,Bool.not_eq_true',decide_eq_false_iff_not] at h;exact h.2 ((hmem i hi s).1 (zEE.1 (hall _ ((hmem k hk s).2 ⟨hs,h.1⟩)))).2
def wgR (c:List (List Int)):List Arw:=if okK c=true then wgL (elL c) (tabE c (elL c)) c.length (klT c) (elL c).length else []
theorem zHE (c:List (List Int)):(wgR c).length≤576:=by
 unfold wgR;split
 ·rename_i h
  have h1:=zHD (elL c) (tabE c (elL c)) c.length (klT c) (elL c).length;have h2:=(KlOk.of h).few;have h3:(elL c).length*(elL c).length≤24*24:=Nat.mul_le_mul h2 h2;omega
 ·simp
end Go.Proofs.YtlgcdacpjcnjgaaGreatDoor
namespace Go.Proofs.YtlgcdacpjcnjgaaGreatDoor
open Go.RowKit
set_option maxRecDepth 20000
set_option maxHeartbeats 8000000
theorem zLS {S S':Nat→Prop} {x y:Value} {a b:List Int} {w:World} (h:RI S w x a) (h':RI S' w y b) (hl:a.length≤16777216) (hl':b.length≤16777216) :
  Calls Tryz.prog 55 #[x,y] w fun e w'=>e=.returned (.bool (insB a b))∧Below w.heap.size w w':=by
 have HHAS:=zTD (fun (q:Int)=>zFU h' q hl');obtain ⟨ax,cx,rfl⟩:=h.form;have HI:Hid (insB a b=a.all fun z=>hasI z b):=zTD rfl;have HH:=zTD h;have H0:Hid (∀t z,t<0→a[t]? = some z→hasI z b=true):=zTD (fun t z ht _=>by omega);generalize hn:a.length=n at *;have HN:=zTD hn;clear hn h h';go_enter Tryz.func55,Tryz.ntmps55
 go_wp2_with fail
 go_loopw [5] (fun ii wr=>∃i:Nat,i≤n∧ii=.int .i64 i∧wr=w∧Hid (∀t z,t<i→a[t]? = some z→hasI z b=true)) (fun ii _=>n-(intOf ii).toNat)
 case atStart=>exact ⟨0,Nat.zero_le _,rfl,rfl,H0⟩
 case round =>
  clear H0;obtain ⟨i,hi,rfl,rfl,HA⟩:=hrel;by_cases hin:i<n
  ·have i1:(i:Int)<(n:Int):=by omega
   obtain ⟨bx,ox,z,rfl,hcz,hz⟩:=RI.at HH.out hin;have hhs:=HHAS.out z;have HMORE:Hid (hasI z b=true→∀t q,t<i+1→a[t]? = some q→hasI q b=true):=zTD (fun h1 t q ht hq=>by
    rcases Nat.lt_or_ge t i with h2 | h2
    ·exact HA.out t q h2 hq
    ·have:t=i:=by omega
     subst this;rw [hz.out] at hq;simp only [Option.some.injEq] at hq;exact hq ▸ h1)
   have HNOT:Hid (hasI z b=false→insB a b=false):=zTD (fun h1=>by
    rw [HI.out,List.all_eq_false];exact ⟨z,zTF hz.out,by rw [h1]; simp⟩)
   clear hz HA;generalize hasI z b=c1 at *;cases c1 with
   | true =>
    have HM:=zTD (HMORE.out rfl);clear HMORE HNOT;go_wp2_with fail
    refine hhs.mono ?_;rintro e w2 ⟨rfl,rfl⟩;clear hhs;go_wp2_with fail
    go_roundw
    case rel=>exact ⟨i+1,by omega,by go_num,trivial,HM⟩
    case measure=>simp [intOf]; omega
   | false =>
    have HM:=zTD (HNOT.out rfl);clear HMORE HNOT;go_wp2_with fail
    refine hhs.mono ?_;rintro e w2 ⟨rfl,rfl⟩;clear hhs;go_wp2_with fail
    go_ret
    exact ⟨by rw [HM.out]; rfl,Below.refl _ _⟩
  ·have i1:¬(i:Int)<(n:Int):=by omega
   have HT:Hid (insB a b=true):=zTD (by
    rw [HI.out,List.all_eq_true];intro z hz;obtain ⟨t,ht⟩:=List.getElem?_of_mem hz;exact HA.out t z (by have:=(zTG ht).1; have:=HN.out; omega) ht)
   go_wp2_with fail
   go_ret
   exact ⟨by rw [HT.out]; rfl,Below.refl _ _⟩
theorem zOp {c:List (List Int)} {x:List Int} {i:Nat}:((List.range (i+1)).filter fun s=>decide (num (zAF c x) s<0)).map (fun (s:Nat)=>(s:Int)) =
  ((List.range i).filter fun s=>decide (num (zAF c x) s<0)).map (fun (s:Nat)=>(s:Int))++(if num (zAF c x) i<0 then [(i:Int)] else []):=by
 rw [List.range_succ,List.filter_append,List.map_append];congr 1;by_cases h:num (zAF c x) i<0
 ·rw [if_pos h]; simp [h]
 ·rw [if_neg h]; simp [h]
theorem zEy {S S':Nat→Prop} {u z:Value} {c:List (List Int)} {l:List Int} {w:World} (h:RII S w u c) (h':RI S' w z l) (hwd:isWd c l=true) (hc:CartanP c) (hl:total c≤16777216) :
  Calls Tryz.prog 43 #[u,z] w fun e w'=>∃r,e=.returned r∧FI (New w w') w' r (ldL c l)∧Below w.heap.size w w':=by
 obtain ⟨_,h15,hlets⟩:=zCA hwd;have HWD:=zTD (fun (wv:World) (hb:Below w.heap.size w wv)=>zEI (h.below hb) (h'.below hb) hl (by omega));rw [hwd] at HWD;have HIM:=zTD (fun (wv:World) (hb:Below w.heap.size w wv)=>zDj (h.below hb) (h'.below hb) hc hlets hl (by omega));have HIL:=zTD (zAa hc hlets (by omega)).1;have hn4:=hc.le;obtain ⟨aa,ca,rfl⟩:=h.form;obtain ⟨az,cz,rfl⟩:=h'.form;have HLD:Hid (ldL c l=((List.range c.length).filter fun s=>decide (num (zAF c l) s<0)).map fun (s:Nat)=>(s:Int)):=zTD rfl;have HNX:=zTD (fun (i:Nat)=>zOp (c:=c) (x:=l) (i:=i));generalize ldL c l=res at *;generalize zAF c l=im at *;generalize c.length=n at *;clear h h' hwd h15 hlets hc;have hil:im.length=n:=HIL.out;obtain ⟨w1,hw1⟩:∃w1,w1=w.alloc (.cells #[] 3):=⟨_,rfl⟩;have hs1:=zBe (HS.nil (Below.refl _ w)) hw1
 have hs1:HS w w1 [aI (.slice (some ⟨w.heap.size,0,none⟩) 0 0) []]:=hs1;have hwd:=HWD.out w1 hs1.bl;have HW1:=zTD hw1;have HIL:=zTD hil;clear hw1 hil;go_enter Tryz.func43,Tryz.ntmps43
 go_wp2_with fail
 rw [<-HW1.out];refine hwd.mono ?_;rintro e w2 ⟨rfl,m2,rfl⟩;have hs2:=HSx.drewN hs1 m2;generalize w1.drewN m2=w2 at *;have him:=HIM.out w2 hs2.bl;clear hwd hs1;go_wp2_with fail
 refine him.mono ?_;rintro e w3 ⟨r3,rfl,f3,b3⟩;have hs3:=HSx.addI hs2 b3 f3;obtain ⟨a3,c3,e3⟩:=f3.form;rw [HIL.out] at e3;subst e3;have hs3:HS w w3 [aI (.slice (some ⟨w.heap.size,0,none⟩) 0 0) (((List.range 0).filter fun s=>decide (num im s<0)).map fun (s:Nat)=>(s:Int)),aI (.slice a3 n c3) im]:=hs3;clear him hs2 f3 b3;go_wp2_with fail
 go_loopw [5,7] (fun oo ii wr=>∃(i:Nat) (vo:Value),vo=oo∧i≤n∧ii=.int .i64 i∧HS w wr [aI vo (((List.range i).filter fun s=>decide (num im s<0)).map fun (s:Nat)=>(s:Int)),aI (.slice a3 n c3) im]) (fun _ ii _=>n-(intOf ii).toNat)
 case atStart=>exact ⟨0,_,rfl,Nat.zero_le _,rfl,hs3⟩
 case round =>
  clear hs3;obtain ⟨i,vo,rfl,hi,rfl,hs⟩:=hrel;by_cases hin:i<n
  ·have i1:(i:Int)<(n:Int):=by omega
   obtain ⟨b,o,x,e3,hcx,hx⟩:=RI.at (HS.I hs 1 rfl).reads (j:=i) hin;have HX:=zTD (zAx hx.out);have HN:=zTD (HNX.out i);rw [HX.out] at HN;subst e3;clear hx;have HLL:Hid ((((List.range i).filter fun s=>decide (num im s<0)).map fun (s:Nat)=>(s:Int)).length+1≤67108864):=zTD (by
    rw [List.length_map];have:=List.length_filter_le (fun s=>decide (num im s<0)) (List.range i);rw [List.length_range] at this;omega)
   by_cases hx0:x<0
   ·have e0:decide (x<0)=true:=decide_eq_true hx0;have HN:=zTD (HN.out.trans (by rw [if_pos hx0]));obtain ⟨w4,hw4⟩:∃w4,w4=wr.alloc (.cells #[.int .i64 i] 3):=⟨_,rfl⟩;have hs4:=HSx.alloc hs (.cells #[.int .i64 i] 3);rw [<-hw4] at hs4;have hc4:w4.cell? ⟨wr.heap.size,0,none⟩=some (.int .i64 i):=by rw [hw4]; go_simp
    have HW4:=zTD hw4;clear hw4 hs;go_wp2_with (at_builtin; go_must (rw [<-HW4.out]; refine zAd rfl _ _ rfl rfl hs4 0 rfl rfl hc4 HLL.out ?_))
    intro v5 w5 hs5;have hs5:HS w w5 [aI v5 (((List.range (i+1)).filter fun s=>decide (num im s<0)).map fun (s:Nat)=>(s:Int)),aI (.slice (some ⟨b,o,none⟩) n c3) im]:=by rw [HN.out]; exact hs5
    clear hs4 hc4;go_wp2_with fail
    go_roundw
    case rel=>exact ⟨i+1,v5,rfl,by omega,by go_num,hs5⟩
    case measure=>simp [intOf]; omega
   ·have e0:decide (x<0)=false:=decide_eq_false hx0;have HN:=zTD (HN.out.trans (by rw [if_neg hx0,List.append_nil]));have hs5:HS w wr [aI vo (((List.range (i+1)).filter fun s=>decide (num im s<0)).map fun (s:Nat)=>(s:Int)),aI (.slice (some ⟨b,o,none⟩) n c3) im]:=by rw [HN.out]; exact hs
    clear hs;go_wp2_with fail
    go_roundw
    case rel=>exact ⟨i+1,vo,rfl,by omega,by go_num,hs5⟩
    case measure=>simp [intOf]; omega
  ·have i1:¬(i:Int)<(n:Int):=by omega
   have hin2:i=n:=by omega
   rw [hin2,<-HLD.out] at hs;have hfi:=HS.I hs 0 rfl;have hbl:=hs.bl;clear hin2 hs;go_wp2_with fail
   go_ret
   exact ⟨_,rfl,hfi,hbl⟩
end Go.Proofs.YtlgcdacpjcnjgaaGreatDoor
