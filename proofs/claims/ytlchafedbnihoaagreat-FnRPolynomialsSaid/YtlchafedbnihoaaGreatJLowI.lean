/- The elements below a word, by the program. Condition: sizes up to 2^24. -/
import Derived.Test.YtlchafedbnihoaaGreatJGLow
import Derived.Test.YtlchafedbnihoaaGreatJGFwd
import Derived.Test.YtlchafedbnihoaaGreatJGSrt
namespace Go.Proofs.YtlchafedbnihoaaGreat
open Go.RowKit
set_option maxRecDepth 20000
set_option maxHeartbeats 8000000
section
variable {w:World} {ops:Array Oper} {rest:List Oper} {o:Oper} {a:Act} {Q:Exit→Act→World→Prop}
theorem zGA {P:Program} (w:World) (base:Nat) (t ty e:TypeId) (i:TypeInfo) (z:Value) (bytes:Nat) (ht:P.underlying t=some (.slice e)) (hi:P.info? e=some i) (hz:i.zero=some z)
  (hsize:i.size=1) (hby:i.bytes=bytes) (_hzs:z.cells.size=1)
  {g n cap:Nat} {xs:List Value} (hown:w.ownsRow base e 1 (.slice (some ⟨g,0,none⟩) n cap) n xs)
  (a:Addr) (m c:Nat) (news:List Value) (hl:news.length=m*1) (hnews:∀j u,news[j]? = some u→w.cell? (a.add j)=some u) (h1:∀u∈news,u.oneCell'=true)
  (h63:n+m≤maxLen) (hbytes:(n+m)*bytes≤140737488355328) {v':Value} {w':World}
  (hrun:(Builtin.append_ #[t,t] ty #[.slice (some ⟨g,0,none⟩) n cap,.slice (some a) m c]).run P w=.ok v' w') (h2:w'.ownsRow base e 1 v' (n+m) (xs++news)):∀(j:Nat) u,xs[j]? = some u→w'.cell? ⟨g,j,none⟩=some u:=by
 subst hby;have hsmall:n+m≤9223372036854775807:=by simp only [maxLen] at h63; omega
 intro j u hj;have hjl:=(zQb hj).1;have hxl:xs.length=n:=by rw [hown.1]; omega
 have hold:w.cell? ⟨g,j,none⟩=some u:=by rw [hown.cellAt j (by omega)]; exact hj
 rcases hown.2 with ⟨hv,_⟩ | ⟨g',cap',cur,hv,hbg,hg,hnc,hcm,hcs,htake⟩
 ·cases hv
 ·simp only [Value.slice.injEq,Option.some.injEq,Addr.mk.injEq,and_true,true_and] at hv;obtain ⟨rfl,rfl⟩:=hv;by_cases hroom:n+m≤cap
  ·have hfit:n*i.size+news.length≤cur.size:=by rw [hl,hcs,hsize,<-Nat.add_mul]; exact Nat.mul_le_mul_right _ hroom
   have hr:=run_append_room (P:=P) w t ty e i ht hi g n cap cur hg a m c news (by rw [hl,hsize]) hnews h1 hroom hfit;rw [hr] at hrun
   injection hrun with e1 e2
   subst e1;rw [h2.cellAt j (by omega),List.getElem?_append_left hjl];exact hj
  ·have holds:∀j u,xs[j]? = some u→w.cell? ((⟨g,0,none⟩:Addr).add j)=some u:=hown.cells (g:=g) rfl;have hr:=run_append_grow (P:=P) w t ty e i z ht hi hz ⟨g,0,none⟩ n cap xs (by rw [hown.1,hsize]) holds a m c news (by rw [hl,hsize]) hnews (by omega) (by omega) (growslice_fits (by omega) hbytes);rw [hr] at hrun
   injection hrun with e1 e2
   subst e2;exact (((Below.refl w.heap.size w).drew.alloc (zQd _) _).cell (p:=⟨g,j,none⟩) (zQc w _ hold)).trans hold
def zKN (w':World) (v:Value) (vs:List Value):Prop:=∀g n cap,v=.slice (some ⟨g,0,none⟩) n cap→∀(j:Nat) u,vs[j]? = some u→w'.cell? ⟨g,j,none⟩=some u
theorem zHj {A:Nat→Prop} {W:World} {K:Act→World→Prop} {Ps:List zAb} (s x:Operand)
  (ho:o.op=.call { callee:=.builtin .append,args:=#[s,x],argTypes:=#[24,24] })
  {v:Value} {vs:List Value} {r:Value} (hs:a.eval s=v) (h:HSx A W w Ps) (i:Nat) (hi:Ps[i]? = some (aV 25 v vs)) (hnew:∀b,v.ownBlock=some b→W.heap.size≤b)
  {H:Nat} (hx:a.eval x=.slice (some ⟨H,0,none⟩) 1 1) (hc:w.cell? ⟨H,0,none⟩=some r) (h1:r.oneCell'=true) (hlen:vs.length+1≤67108864)
  (k:∀v' w',HSx A W w' (Ps.set i (aV 25 v' (vs++[r])))→(∀b,v'.ownBlock=some b→W.heap.size≤b)→w.grownBy w' v.ownBlock→zKN w' v vs→K (a.put o.dst v') w'):o.wp Tryz.prog a w K Q:=by
 obtain ⟨F0,hf,_⟩:=HSx.get h i hi;obtain ⟨i0,hi0,hz0,hz1,hz2⟩:=info_parts zFt;have hnews:∀(j:Nat) u,([r]:List Value)[j]? = some u→w.cell? ((⟨H,0,none⟩:Addr).add j)=some u:=by
  intro j u hj
  match j,hj with
  | 0,hj=>simp at hj; subst hj; simpa [Addr.add] using hc
 have ho1:∀u∈([r]:List Value),u.oneCell'=true:=by intro u hu; simp at hu; subst hu; exact h1
 have hb2:(vs.length+1)*24≤140737488355328:=by omega
 obtain ⟨v',w',hr,h2,h3,_⟩:=run_append_own (P:=Tryz.prog) w 0 24 o.type 25 i0 _ 1 24 Tryz.underlying24 hi0 hz0 hz1 hz2 rfl (by decide) v vs.length vs hf.1 ⟨H,0,none⟩ 1 1 [r] rfl hnews ho1 (by unfold maxLen; omega) hb2 (Nat.zero_le _);have h4:=zCk (P:=Tryz.prog) w 0 24 o.type 25 i0 _ 1 24 Tryz.underlying24 hi0 hz0 hz1 hz2 rfl (by decide) v vs.length vs hf.1 ⟨H,0,none⟩ 1 1 [r] rfl hnews ho1 (by unfold maxLen; omega) hb2 hr;have h5:∀g n cap,v=.slice (some ⟨g,0,none⟩) n cap→∀(j:Nat) u,vs[j]? = some u→w'.cell? ⟨g,j,none⟩=some u:=fun g n cap hv=>by
  subst hv;have hn:=zFZ hf.1;subst hn;exact zGA (P:=Tryz.prog) w 0 24 o.type 25 i0 _ 24 Tryz.underlying24 hi0 hz0 hz1 hz2 rfl hf.1 ⟨H,0,none⟩ 1 1 [r] rfl hnews ho1 (by unfold maxLen; omega) hb2 hr h2
 unfold Oper.wp execOp;simp only [ho,resolve,invoke,builtin,Sem.run_bind,Sem.run_pure,Result.andThen_ok,List.map_toArray,List.map_cons,List.map_nil,hs,hx,hr];refine (k v' w' (h.upd i hi (st_V _ _ _) (zCw h.bl h3 hnew) h3.size fun F hF _=>⟨fun b=>v'.ownBlock=some b,⟨?_,fun b hb=>hb⟩,fun b hb=>?_,fun b hl hb=>h3.block b hl (fun e=>hb (hF.2 b e.symm))⟩) (fun b hb=>?_) h3 h5)
 ·rw [List.length_append]; exact h2
 ·rcases h4 b hb with e | e
  ·exact .inl (hF.2 b e)
  ·exact .inr ⟨e,(h2.lt b hb).2⟩
 ·rcases h4 b hb with e | e
  ·exact hnew b e
  ·exact Nat.le_trans h.bl.size e
theorem zHr {A:Nat→Prop} {W:World} {Ps:List zAb} (hgd:o.guard=none) (s x:Operand)
  (ho:o.op=.call { callee:=.builtin .append,args:=#[s,x],argTypes:=#[24,24] })
  {v:Value} {vs:List Value} {r:Value} (hs:a.eval s=v) (h:HSx A W w Ps) (i:Nat) (hi:Ps[i]? = some (aV 25 v vs)) (hnew:∀b,v.ownBlock=some b→W.heap.size≤b)
  {H:Nat} (hx:a.eval x=.slice (some ⟨H,0,none⟩) 1 1) (hc:w.cell? ⟨H,0,none⟩=some r) (h1:r.oneCell'=true) (hlen:vs.length+1≤67108864)
  (k:∀v' w',HSx A W w' (Ps.set i (aV 25 v' (vs++[r])))→(∀b,v'.ownBlock=some b→W.heap.size≤b)→w.grownBy w' v.ownBlock→zKN w' v vs→wpList Tryz.prog ops Q rest (a.put o.dst v') w'):wpList Tryz.prog ops Q (o::rest) a w :=
 wpList_plain hgd fun _ hK=>zHj s x ho hs h i hi hnew hx hc h1 hlen fun v' w' h2 h3 h4 h5=>hK _ _ (k v' w' h2 h3 h4 h5)
theorem zJP {A:Nat→Prop} {W:World} {K:Act→World→Prop} {E:Prop} {Ps:List zAb} (hgd:o.guard=none) (s x:Operand)
  (ho:o.op=.call { callee:=.builtin .append,args:=#[s,x],argTypes:=#[24,24] })
  {v:Value} {vs:List Value} {r:Value} (hs:a.eval s=v) (h:HSx A W w Ps) (i:Nat) (hi:Ps[i]? = some (aV 25 v vs)) (hnew:∀b,v.ownBlock=some b→W.heap.size≤b)
  {H:Nat} (hx:a.eval x=.slice (some ⟨H,0,none⟩) 1 1) (hc:w.cell? ⟨H,0,none⟩=some r) (h1:r.oneCell'=true) (hlen:vs.length+1≤67108864)
  (k:∀v' w',HSx A W w' (Ps.set i (aV 25 v' (vs++[r])))→(∀b,v'.ownBlock=some b→W.heap.size≤b)→w.grownBy w' v.ownBlock→zKN w' v vs→K (a.put o.dst v') w'):if Region.wanted o (yielded ops a.tmps)=true then Oper.wp Tryz.prog o a w K Q else E:=by
 have hw:Region.wanted o (yielded ops a.tmps)=true:=by simp [Region.wanted,hgd]
 rw [if_pos hw];exact zHj s x ho hs h i hi hnew hx hc h1 hlen k
end
def Snap (w:World) (g:Nat) (rs:List Value):Prop:=∀(j:Nat) u,rs[j]? = some u→w.cell? ⟨g,j,none⟩=some u
theorem Snap.below {w w':World} {g:Nat} {rs:List Value} (h:Snap w g rs) (hb:Below w.heap.size w w'):Snap w' g rs:=fun j u hj=>(hb.cell (p:=⟨g,j,none⟩) (zQc w _ (h j u hj))).trans (h j u hj)
theorem Snap.grown {w w':World} {g:Nat} {rs:List Value} {b:Option Nat} (h:Snap w g rs) (hg:w.grownBy w' b) (hne:∀(j:Nat) u,rs[j]? = some u→b≠some g):Snap w' g rs:=fun j u hj=>by
 have h1:=h j u hj;have hlt:=zQc w _ h1;have e:=hg.block g hlt (fun e=>hne j u hj e.symm);unfold World.cell? at h1 ⊢;simp only at h1 ⊢;rw [e]; exact h1
theorem HSx.capV {A:Nat→Prop} {w0 w:World} {Ps:List zAb} {e:TypeId} {a:Option Addr} {n cap:Nat} {vs:List Value} (h:HSx A w0 w Ps) (i:Nat) (hi:Ps[i]? = some (aV e (.slice a n cap) vs)):n≤cap:=by
 obtain ⟨F,hF,_⟩:=HSx.get h i hi;have hn:=zFZ hF.1;rcases hF.1.2 with ⟨hv,_⟩ | ⟨g,cap',cur,hv,_,_,hnc,_⟩
 ·simp only [Value.slice.injEq] at hv; omega
 ·simp only [Value.slice.injEq] at hv; omega
def inQ (q:List (List Int)):List Int→Value:=fun x=>.bool (decide (x∈q))
theorem zOJ (q:List (List Int)) (y:List Int):putM (inQ q) y (.bool true)=inQ (q++[y]):=by
 funext x;unfold putM inQ;by_cases h:x=y
 ·subst h; simp
 ·rw [if_neg h]; simp [h]
theorem zOI:putM (fun _=>Value.bool false) [] (.bool true)=inQ [[]]:=by
 funext x;unfold putM inQ;by_cases h:x=[]
 ·subst h; simp
 ·rw [if_neg h]; simp [h]
theorem zNB {n:Nat} {x:List Int} (h:Lets n x) (h4:n≤4):OkW x:=fun y hy=>by have:=h y hy; omega
theorem zJU (w:World):(zeroValue 4).run Tryz.prog w=.ok (.bool false) w:=by kernel_rfl
theorem zHq {q q':List (List Int)} (hp:q'.Perm q) (hs:q'.Pairwise (fun a b=>¬cmpW b a<0)) (hn:q.Nodup) {r:List (List Int)} (hr:∀x,x∈r↔x∈q):q'=zBT r:=by
 refine zI7 ?_ (zBs r).1 (fun x=>by rw [hp.mem_iff,(zBs r).2,hr]);have hn':q'.Nodup:=(hp.nodup_iff).2 hn;refine (List.Pairwise.and hn' hs).imp fun {a b} ⟨h1,h2⟩=>?_;rcases zEV h1 with h3 | h3
 ·exact h3
 ·exact absurd h3 h2
theorem zHS {S S':Nat→Prop} {u v:Value} {c:List (List Int)} {l:List Int} {w:World} (h:RII S w u c) (h':RI S' w v l) (hl:total c≤16777216) (hl':l.length≤16777216) :
  Calls Tryz.prog 45 #[u,v] w fun e w'=>∃r,e=.returned (.tuple #[r,.bool (lwOk c l)])∧FII (New w w') w' r (lwR c l)∧Below w.heap.size w w':=by
 have mixed:Tryz.prog.follows .mixedOrders=true:=by kernel_rfl
 have hw0:=zDW h h' hl hl';cases hwd:isWd c l with
 | false =>
  have HO:Hid (lwOk c l=false):=zQY (by unfold lwOk lwQ; rw [hwd]; rfl);have HR:Hid (lwR c l=[]):=zQY (by unfold lwR lwQ; rw [hwd]; rfl);rw [hwd] at hw0;clear hwd;go_enter Tryz.func45,Tryz.ntmps45
  go_wp2_with fail
  refine hw0.mono ?_;rintro e w1 ⟨rfl,m1,rfl⟩;have hb1:Below w.heap.size w (w.drewN m1):=below_drewN (Below.refl _ w) m1;generalize w.drewN m1=w1 at *;have hf:=FII.empty_of hb1 (w1:=w1.alloc (.cells #[] 25)) rfl;clear hw0;go_wp2_with fail
  go_ret2
  exact ⟨_,by rw [HO.out]; rfl,by rw [HR.out]; exact hf.1,hf.2⟩
 | true =>
  obtain ⟨hisc,hlen15,hlets⟩:=zAT hwd;have hc:CartanP c:=zAY.1 hisc;have h15:Nf15 c (zAB c l):=⟨(zBl hc hlets (by omega)).1,by have:=zAj hc hlets (by omega); omega⟩;have hsame:=zMx hc h15.1;have hIok:=zJt hc h15.1;have hSok:=zEI hc h15.1;have HOK:Hid (lwOk c l=(lowI c (zAB c l)).isSome):=zQY (by unfold lwOk lwQ; rw [hwd]; exact hsame.1);have HRN:Hid (lowI c (zAB c l)=none→lwR c l=[]):=zQY (fun e=>by
   have h1:=hsame.1;rw [e] at h1;unfold lwR lwQ;rw [hwd];cases h2:lowS c (zAB c l) with
   | none=>rw [if_pos rfl]; rfl
   | some q=>rw [h2] at h1; cases h1)
  have HRS:Hid (∀o o':List (List Int),lowI c (zAB c l)=some o→o'.Perm o→o'.Pairwise (fun a b=>¬cmpW b a<0)→o'=lwR c l):=zQY (fun o o' e hp hs=>by
   have h1:=hsame.1;rw [e] at h1 hIok;unfold lwR lwQ;rw [hwd,if_pos rfl];cases h2:lowS c (zAB c l) with
   | none=>rw [h2] at h1; cases h1
   | some q=>exact zHq hp hs hIok.1 (fun x=>hsame.2 q o h2 e x))
  have hred:=zQY (fun (wv:World) (hb:Below w.heap.size w wv)=>zCZ (h.below hb) (h'.below hb) hc hlets (by omega));have HRD:=zQY (fun (wv:World) (S9:Nat→Prop) (vv:Value) (x:List Int) (hb:Below w.heap.size w wv) (hx:RI S9 wv vv x) (hle:Lets c.length x) (hxl:x.length≤30)=>zCZ (h.below hb) hx hc hle hxl);have HQ0:Hid (zDw c ((zAB c l).drop 0) [[]]=lowI c (zAB c l)):=zQY rfl;have HXL:Hid (∀x∈zAB c l,0≤x∧x<c.length):=zQY h15.1.lets;have HNF:=zQY (fun (x:List Int) (hle:Lets c.length x) (hx:x.length≤24)=>(zBl hc hle hx).1);have HNL:=zQY (fun (x:List Int) (hle:Lets c.length x) (hx:x.length≤24)=>zAj hc hle (show x.length≤30 by omega));have HNN:Hid (Nf c []):=zQY (zLk hc);have h4:=hc.le;have hx15:=h15.2;rw [hwd] at hw0;generalize lowI c (zAB c l)=R at *;generalize zAB c l=X at *
  clear hwd hisc hlets hlen15 h h' hl hl' hsame hIok hSok h15 hc;go_enter Tryz.func45,Tryz.ntmps45
  go_wp2_with fail
  refine hw0.mono ?_;rintro e w1 ⟨rfl,m1,rfl⟩;have hb1:Below w.heap.size w (w.drewN m1):=below_drewN (Below.refl _ w) m1;generalize w.drewN m1=w1 at *;obtain ⟨w2,hw2⟩:∃w2,w2=w1.alloc (.cells #[] 3):=⟨_,rfl⟩;have fe:=zAR (Below.refl _ w1) hw2;have hs2:=HSx.addI (HS.nil hb1) fe.2 fe.1;obtain ⟨w3,hw3⟩:∃w3,w3=w2.alloc (.cells #[.slice (some ⟨w1.heap.size,0,none⟩) 0 0] 25):=⟨_,rfl⟩;have hs3:=HSx.newV1 hs2 (.slice (some ⟨w1.heap.size,0,none⟩) 0 0) hw3;have hs4:=(HSx.add hs3 (Below.refl _ _) (zCf []) (F:=NoB) ⟨fun x hx=>by simp at hx,List.Pairwise.nil⟩ (fun b hb=>hb.elim)).moreS 2 0 (by decide) rfl rfl (Z':=[(.slice (some ⟨w1.heap.size,0,none⟩) 0 0,[])]) (List.Perm.refl _);have hs4:=hs4.pick [1,2] (by decide);obtain ⟨w4,hw4⟩:∃w4,w4=w3.alloc (.map #[] 0):=⟨_,rfl⟩;have hs5:=HSx.newMap hs4 (.bool false) hw4
  have hz2:w2.heap.size=w1.heap.size+1:=by rw [hw2]; simp
  have hz3:w3.heap.size=w1.heap.size+1+1:=by rw [hw3,<-hz2]; simp
  have hmb:w.heap.size≤w1.heap.size+1+1:=by have:=hb1.size; omega
  rw [hz2,hz3] at hs5;have hs5:HS w w4 [aV 25 (.slice (some ⟨w1.heap.size+1,0,none⟩) 1 1) (([(.slice (some ⟨w1.heap.size,0,none⟩) 0 0,[])]:Zl).map Prod.fst),aRs [(.slice (some ⟨w1.heap.size,0,none⟩) 0 0,[])],aM (.bool false) (w1.heap.size+1+1) 0 (fun _=>.bool false)]:=hs5;have HW:=zQY (show w4=((w1.alloc (.cells #[] 3)).alloc (.cells #[.slice (some ⟨w1.heap.size,0,none⟩) 0 0] 25)).alloc (.map #[] 0) by rw [hw4,hw3,hw2]);have hok0:OkW ([]:List Int):=fun x hx=>by simp at hx
  clear hw0 hw2 hw3 hw4 fe hs2 hs3 hs4 hb1 hz2 hz3;go_wp2_with fail
  rw [run_makeMap,<-HW.out];go_wp2_with (refine zHs rfl _ _ _ rfl rfl hs5 2 rfl hmb (by omega) Tryz.underlying83 hok0 (by simp) rfl rfl ?_)
  intro w5 hs6;rw [zOI] at hs6;have hs6:HS w w5 [aV 25 (.slice (some ⟨w1.heap.size+1,0,none⟩) 1 1) (([(.slice (some ⟨w1.heap.size,0,none⟩) 0 0,[])]:Zl).map Prod.fst),aRs [(.slice (some ⟨w1.heap.size,0,none⟩) 0 0,[])],aM (.bool false) (w1.heap.size+1+1) 1 (inQ (([(.slice (some ⟨w1.heap.size,0,none⟩) 0 0,[])]:Zl).map Prod.snd))]:=hs6;have HT0:Hid (∀z∈([(.slice (some ⟨w1.heap.size,0,none⟩) 0 0,[])]:Zl),Nf c z.2∧z.2.length≤0):=zQY (fun z hz=>by rw [List.mem_singleton] at hz; subst hz; exact ⟨HNN.out,by simp⟩);have hrd:=hred.out w5 hs6.bl;generalize w1.heap.size+1+1=mb at *;generalize w1.heap.size+1=g1 at *;clear hs5 hred HW HNN;go_wp2_with fail
  refine hrd.mono ?_;rintro e w6 ⟨r6,rfl,f6,b6⟩;have hs7:=HSx.addI hs6 b6 f6;have hs7:HS w w6 [aV 25 (.slice (some ⟨g1,0,none⟩) 1 1) (([(.slice (some ⟨w1.heap.size,0,none⟩) 0 0,[])]:Zl).map Prod.fst),aRs [(.slice (some ⟨w1.heap.size,0,none⟩) 0 0,[])],aM (.bool false) mb 1 (inQ (([(.slice (some ⟨w1.heap.size,0,none⟩) 0 0,[])]:Zl).map Prod.snd)),aI r6 X]:=hs7;obtain ⟨ax,cx,rfl⟩:=f6.form;generalize hm:X.length=m at *;have HM:=zQY hm;clear hrd hs6 f6 b6 hm;go_wp2_with fail
  go_loopw [6,27] (fun oo ii wr=>∃(i:Nat) (vo:Value) (Z:Zl),vo=oo∧i≤m∧ii=.int .i64 i∧HS w wr [aV 25 vo (Z.map Prod.fst),aRs Z,aM (.bool false) mb Z.length (inQ (Z.map Prod.snd)),aI (.slice ax m cx) X]∧Hid (∀z∈Z,Nf c z.2∧z.2.length≤i)∧(1≤Z.length∧Z.length≤200)∧Hid (zDw c (X.drop i) (Z.map Prod.snd)=R)) (fun _ ii _=>m-(intOf ii).toNat)
  case atStart=>exact ⟨0,_,_,rfl,Nat.zero_le _,rfl,hs7,HT0,⟨by simp,by simp⟩,HQ0⟩
  case round =>
   clear hs7 HT0 HQ0;obtain ⟨i,vo,Z,rfl,hi,rfl,hs,HT,⟨hz1,hz200⟩,HQ⟩:=hrel;have hlz:(Z.map Prod.fst).length=Z.length:=by simp
   obtain ⟨⟨av,cv,rfl⟩,hhv⟩:=hs.formV 0 rfl;rw [hlz] at hs hhv ⊢;generalize hz0:Z.length=z0 at *;have HZ0:=zQY hz0;clear hlz;by_cases him:i<m
   ·have i1:(i:Int)<(m:Int):=by omega
    have i2:(0:Int)≤(i:Int):=by omega
    obtain ⟨bx,ox,a,rfl,hca,hxa⟩:=RI.at (HS.I hs 3 rfl).reads him;have hq:=HQ.out;rw [zAF hxa.out] at hq;unfold zDw at hq;have HQ2:=zQY hq;have ha:=HXL.out a (zQa hxa.out);have hlet:∀z∈Z,Lets c.length (z.2++[a]):=fun z hz=>zCo (HT.out z hz).1.lets (fun y hy=>by rw [List.mem_singleton] at hy; subst hy; exact ha);have HLET:=zQY hlet;obtain ⟨g0,rfl⟩:∃g,av=some ⟨g,0,none⟩:=by
     obtain ⟨g,c9,e⟩:=hhv (by omega);simp only [Value.slice.injEq] at e;exact ⟨g,e.1⟩
    have icap:z0≤cv:=hs.capV 0 rfl;have i0:¬z0=0:=by omega
    have HSN:Hid (Snap wr g0 (Z.map Prod.fst)):=zQY (fun j r hr=>(hs.cellV 0 rfl (j:=j) hr).1);have HPRE:Hid (∃T,Z=Z++T):=zQY ⟨[],by simp⟩;have HT1:Hid (∀z∈Z,Nf c z.2∧z.2.length≤i+1):=zQY (fun z hz=>⟨(HT.out z hz).1,by have:=(HT.out z hz).2; omega⟩);have HF0:Hid (((Z.map Prod.snd).drop 0).foldl (liF c a) (Z.map Prod.snd)=(Z.map Prod.snd).foldl (liF c a) (Z.map Prod.snd)):=zQY rfl;have hzk:Z.length≤z0+0:=by omega
    have hs':HS w wr [aV 25 (.slice (some ⟨g0,0,none⟩) z0 cv) (Z.map Prod.fst),aRs Z,aM (.bool false) mb Z.length (inQ (Z.map Prod.snd)),aI (.slice (some ⟨bx,ox,none⟩) m cx) X]:=by rw [HZ0.out]; exact hs
    generalize hRO:(Z.map Prod.snd).foldl (liF c a) (Z.map Prod.snd)=RO at *;have i3:(0:Int)≤(z0:Int):=by omega
    clear hq hxa hs hlet hRO hhv hz0;go_wp2_with fail
    go_loopw [6,38] (fun oo kk wr=>∃(k:Nat) (vo:Value) (Y:Zl),vo=oo∧k≤z0∧kk=.int .i64 k∧HS w wr [aV 25 vo (Y.map Prod.fst),aRs Y,aM (.bool false) mb Y.length (inQ (Y.map Prod.snd)),aI (.slice (some ⟨bx,ox,none⟩) m cx) X]∧Hid (Snap wr g0 (Z.map Prod.fst))∧Hid (∃T,Y=Z++T)∧Hid (∀z∈Y,Nf c z.2∧z.2.length≤i+1)∧Y.length≤z0+k∧Hid (((Z.map Prod.snd).drop k).foldl (liF c a) (Y.map Prod.snd)=RO)) (fun _ kk _=>z0-(intOf kk).toNat)
    case atStart=>exact ⟨0,_,Z,rfl,Nat.zero_le _,rfl,hs',HSN,HPRE,HT1,hzk,HF0⟩
    case round =>
     clear hs' HSN HPRE HT1 hzk HF0 hca;obtain ⟨k,vo,Y,rfl,hk,rfl,hs,HSN,HPRE,HT1,hyk,HF⟩:=hrel;have hly:(Y.map Prod.fst).length=Y.length:=by simp
     obtain ⟨⟨ay,cy,rfl⟩,hhy⟩:=hs.formV 0 rfl;rw [hly] at hs hhy ⊢;generalize hmy:Y.length=my at *;have HMY:=zQY hmy;clear hly;by_cases hkz:k<z0
     ·have k1:(k:Int)<(z0:Int):=by omega
      have k2:(0:Int)≤(k:Int):=by omega
      obtain ⟨z,hz⟩:∃z,Z[k]? = some z:=⟨Z[k]'(by rw [HZ0.out]; exact hkz),zQZ _⟩;have hzm:=zQa hz;have hzY:z∈Y:=by obtain ⟨T,hT⟩:=HPRE.out; rw [hT]; exact List.mem_append_left _ hzm
      have hcz:=HSN.out k z.1 (by simp [hz]);have hrz:=hs.rowS 1 rfl hzY;have hzt:=HT.out z hzm;have hf:=HF.out;rw [zAF (x:=z.2) (by rw [List.getElem?_map,hz]; rfl),List.foldl_cons] at hf;have HLZ:=zQY (HLET.out z hzm);obtain ⟨rz,lz⟩:=z;have hcz:wr.cell? ⟨g0,k,none⟩=some rz:=hcz;have hrz:RI _ wr rz lz:=hrz;have hzt:Nf c lz∧lz.length≤i:=hzt;have hf:((Z.map Prod.snd).drop (k+1)).foldl (liF c a) (liF c a (Y.map Prod.snd) lz)=RO:=hf;have HLZ:Hid (Lets c.length (lz++[a])):=HLZ;have hcl:=zEs hrz (by have:=hzt.2; omega);obtain ⟨az,cz,rfl⟩:=hrz.form;have HFF:=zQY hf;have HZT:=zQY hzt;have hlz16:lz.length≤16:=by have:=hzt.2; omega
      clear hz hzm hzY hrz hzt hf;go_wp2_with fail
      refine hcl.mono ?_;rintro e w7 ⟨r7,rfl,f7,b7⟩;have hb8:Below wr.heap.size wr (w7.alloc (.cells #[.int .i64 a] 3)):=b7.alloc b7.size _;obtain ⟨w8,hw8⟩:∃w8,w8=w7.alloc (.cells #[.int .i64 a] 3):=⟨_,rfl⟩;have hf8:FI (New wr w8) w8 r7 lz:=by rw [hw8]; exact f7.grow ((Below.refl _ w7).alloc (zQd _) _)
      rw [<-hw8] at hb8;have hc8:w8.cell? ⟨w7.heap.size,0,none⟩=some (.int .i64 a):=by rw [hw8]; go_simp
      have HW8:=zQY hw8;have HLN:Hid (lz.length+1≤67108864):=zQY (by omega);clear hcl f7 b7 hw8 hcz;go_wp2_with (at_builtin; go_must (rw [<-HW8.out]; refine zJR (W:=wr) rfl _ _ rfl rfl hf8 hb8 rfl hc8 HLN.out ?_))
      intro v9 w9 f9 b9 _ _;have hs9:=HSx.addI hs b9 f9;have HSN9:=zQY (HSN.out.below b9);have hs9:HS w w9 [aV 25 (.slice ay my cy) (Y.map Prod.fst),aRs Y,aM (.bool false) mb my (inQ (Y.map Prod.snd)),aI (.slice (some ⟨bx,ox,none⟩) m cx) X,aI v9 (lz++[a])]:=hs9;have hrd:=HRD.out w9 _ v9 (lz++[a]) hs9.bl f9.reads HLZ.out (by simp; omega);clear hf8 hb8 hc8 f9 b9 HSN hs;go_wp2_with fail
      refine hrd.mono ?_;rintro e w10 ⟨r10,rfl,f10,b10⟩;have hs10:=HSx.addI hs9 b10 f10;have HSN10:=zQY (HSN9.out.below b10);have hs10:HS w w10 [aV 25 (.slice ay my cy) (Y.map Prod.fst),aRs Y,aM (.bool false) mb my (inQ (Y.map Prod.snd)),aI (.slice (some ⟨bx,ox,none⟩) m cx) X,aI r10 (zAB c (lz++[a]))]:=HSx.pick hs10 [0,1,2,3,5] (by decide);have hyn:=HNF.out (lz++[a]) HLZ.out (by simp; omega);have hyl:=HNL.out (lz++[a]) HLZ.out (by simp; omega);have HYT:Hid (Nf c (zAB c (lz++[a]))∧(zAB c (lz++[a])).length≤i+1):=zQY ⟨hyn,by have:=HZT.out.2; simp at hyl; omega⟩;have hok:OkW (zAB c (lz++[a])):=zNB hyn.lets h4;have hyl20:(zAB c (lz++[a])).length≤17:=by simp at hyl; omega
      have hfw:=zGr f10.reads hok.inL (by omega);obtain ⟨a10,c10,rfl⟩:=f10.form;have HFF2:Hid (((Z.map Prod.snd).drop (k+1)).foldl (liF c a) (if zAB c (lz++[a])∈Y.map Prod.snd then Y.map Prod.snd else Y.map Prod.snd++[zAB c (lz++[a])])=RO):=HFF;have HYT:=HYT;generalize hny:(zAB c (lz++[a])).length=ny at *;have HNY:=zQY hny;clear hrd hs9 HSN9 hyn hyl f10 b10 HFF hny;go_wp2_with fail
      refine hfw.mono ?_;rintro e w11 ⟨rfl,b11⟩;have hs11:=HSx.below hs10 b11;have HSN11:=zQY (HSN10.out.below b11);have hone10:(Value.slice a10 ny c10).oneCell'=true:=rfl;clear hs10 HSN10 hfw b11;generalize zAB c (lz++[a])=y at *;have hlk:(Go.Instr.lookup 83 (.map (some mb)) (.string (bs (zBG y))) false).run Tryz.prog w11=.ok (.bool (decide (y∈Y.map Prod.snd))) w11:=HSx.mapRun hs11 2 rfl Tryz.underlying83 zJU hok (by rw [HNY.out]; omega);by_cases hmem:y∈Y.map Prod.snd
      ·rw [decide_eq_true hmem] at hlk;have HF2:Hid (((Z.map Prod.snd).drop (k+1)).foldl (liF c a) (Y.map Prod.snd)=RO):=zQY (by have:=HFF2.out; rw [if_pos hmem] at this; exact this);have hs12:HS w w11 [aV 25 (.slice ay my cy) (Y.map Prod.fst),aRs Y,aM (.bool false) mb Y.length (inQ (Y.map Prod.snd)),aI (.slice (some ⟨bx,ox,none⟩) m cx) X]:=by rw [HMY.out]; exact HSx.pick hs11 [0,1,2,3] (by decide)
       clear hmem hs11;go_wp2_with fail
       go_roundw
       case rel=>exact ⟨k+1,_,Y,rfl,by omega,by go_num,hs12,HSN11,HPRE,HT1,by rw [HMY.out]; omega,HF2⟩
       case measure=>simp [intOf]; omega
      ·rw [decide_eq_false hmem] at hlk;have HF2:Hid (((Z.map Prod.snd).drop (k+1)).foldl (liF c a) ((Y++[(Value.slice a10 ny c10,y)]).map Prod.snd)=RO):=zQY (by have:=HFF2.out; rw [if_neg hmem] at this; rw [List.map_append]; exact this);have HT2:Hid (∀z∈Y++[(Value.slice a10 ny c10,y)],Nf c z.2∧z.2.length≤i+1):=zQY (fun z hz=>by
        rcases List.mem_append.1 hz with hz | hz
        ·exact HT1.out z hz
        ·rw [List.mem_singleton] at hz; subst hz; exact ⟨HYT.out.1,by show y.length≤i+1; rw [HNY.out]; exact HYT.out.2⟩)
       have hs11':HS w w11 [aV 25 (.slice ay my cy) (Y.map Prod.fst),aRs Y,aM (.bool false) mb my (inQ (Y.map Prod.snd)),aI (.slice (some ⟨bx,ox,none⟩) m cx) X,aI (.slice a10 ny c10) y]:=hs11;have HNE:Hid (∀(j:Nat) r,(Z.map Prod.fst)[j]? = some r→some mb≠some g0):=zQY (fun j r hr e=>(HSx.mapOff hs11' 2 rfl (HSN11.out j r hr)) (by simpa using e.symm));have HPR2:Hid (∃T,Y++[(Value.slice a10 ny c10,y)]=Z++T):=zQY (by obtain ⟨T,hT⟩:=HPRE.out; exact ⟨T++[(Value.slice a10 ny c10,y)],by rw [hT,List.append_assoc]⟩);have HPF:Hid (∀(j:Nat) r,(Z.map Prod.fst)[j]? = some r→(Y.map Prod.fst)[j]? = some r):=zQY (fun j r hr=>by
        obtain ⟨T,hT⟩:=HPRE.out;rw [hT,List.map_append,List.getElem?_append_left (zQb hr).1]; exact hr)
       have HYB:Hid (y.length≤1048576):=zQY (by rw [HNY.out]; omega);have hmy9:my<67108864:=by omega
       clear hmem hs11;go_wp2_with (refine zHA rfl _ _ _ rfl rfl hs11' 2 rfl hmb hmy9 Tryz.underlying83 hok HYB.out rfl rfl ?_)
       intro w12 hs12 hg12;have HSN12:=zQY (HSN11.out.grown hg12 HNE.out);rw [zOJ] at hs12;obtain ⟨w13,hw13⟩:∃w13,w13=w12.alloc (.cells #[.slice a10 ny c10] 25):=⟨_,rfl⟩;have hs13:HS w w13 [aV 25 (.slice ay my cy) (Y.map Prod.fst),aRs Y,aM (.bool false) mb (my+1) (inQ (Y.map Prod.snd++[y])),aI (.slice (some ⟨bx,ox,none⟩) m cx) X,aI (.slice a10 ny c10) y]:=by rw [hw13]; exact HSx.alloc hs12 _
       have HSN13:Hid (Snap w13 g0 (Z.map Prod.fst)):=zQY (by rw [hw13]; exact HSN12.out.below ((Below.refl _ _).alloc (zQd _) _));have hc13:w13.cell? ⟨w12.heap.size,0,none⟩=some (.slice a10 ny c10):=by rw [hw13]; go_simp
       have HW13:=zQY hw13;have HNV:=zQY (HS.newV hs13 0 rfl);have HLN2:Hid ((Y.map Prod.fst).length+1≤67108864):=zQY (by rw [List.length_map,HMY.out]; omega);clear hs12 hs11' hg12 hw13 hlk;go_wp2_with (at_builtin; go_must (rw [<-HW13.out]; refine zHr rfl _ _ rfl rfl hs13 0 rfl HNV.out rfl hc13 hone10 HLN2.out ?_))
       intro v14 w14 hs14 _ hg14 hkeep;have HSN14:Hid (Snap w14 g0 (Z.map Prod.fst)):=zQY (fun j r hr=>by
        by_cases hb:(Value.slice ay my cy).ownBlock=some g0
        ·have hrow:ay=some ⟨g0,0,none⟩:=by
          obtain ⟨F,hF,_⟩:=HSx.get hs13 0 rfl;rcases hF.1.2 with ⟨hv,_⟩ | ⟨g,cap,cur,hv,_⟩
          ·rw [hv] at hb; cases hb
          ·rw [hv] at hb;simp only [Value.slice.injEq] at hv;simp only [Value.ownBlock,Option.some.injEq] at hb;rw [hv.1,hb]
         exact hkeep g0 my cy (by rw [hrow]) j r (HPF.out j r hr)
        ·exact HSN13.out.grown hg14 (fun _ _ _=>hb) j r hr)
       have hs15:=(HSx.moreS hs14 1 4 (by decide) rfl rfl (Z':=Y++[(.slice a10 ny c10,y)]) (List.perm_append_singleton _ _)).pick [0,1,2,3] (by decide);have hs15:HS w w14 [aV 25 v14 ((Y++[(Value.slice a10 ny c10,y)]).map Prod.fst),aRs (Y++[(Value.slice a10 ny c10,y)]),aM (.bool false) mb (Y++[(Value.slice a10 ny c10,y)]).length (inQ ((Y++[(Value.slice a10 ny c10,y)]).map Prod.snd)),aI (.slice (some ⟨bx,ox,none⟩) m cx) X]:=by
        have e1:(Y++[(Value.slice a10 ny c10,y)]).map Prod.fst=Y.map Prod.fst++[Value.slice a10 ny c10]:=by simp
        have e2:(Y++[(Value.slice a10 ny c10,y)]).map Prod.snd=Y.map Prod.snd++[y]:=by simp
        have e3:(Y++[(Value.slice a10 ny c10,y)]).length=my+1:=by rw [List.length_append,HMY.out]; rfl
        rw [e1,e2,e3]; exact hs15
       have hyk2:(Y++[(Value.slice a10 ny c10,y)]).length≤z0+(k+1):=by rw [List.length_append,HMY.out]; simp; omega
       clear hs13 hs14 hkeep hg14;go_wp2_with fail
       go_roundw
       case rel=>exact ⟨k+1,_,_,rfl,by omega,by go_num,hs15,HSN14,HPR2,HT2,hyk2,HF2⟩
       case measure=>simp [intOf]; omega
     ·have k1:¬(k:Int)<(z0:Int):=by omega
      have hf:=HF.out;rw [List.drop_eq_nil_of_le (by rw [List.length_map,HZ0.out]; omega)] at hf;have hf:Y.map Prod.snd=RO:=hf;have hrl:RO.length=my:=by rw [<-hf,List.length_map,HMY.out]
      have hq:=HQ2.out;rw [hrl] at hq;by_cases hbig:200<my
      ·rw [if_pos hbig] at hq;have i5:(200:Int)<(my:Int):=by omega
       have HRN2:=zQY (HRN.out hq.symm);have HR0:Hid (R=none):=zQY hq.symm;have hfe:=FII.empty_of hs.bl (w1:=wr.alloc (.cells #[] 25)) rfl;clear hf hrl hq hs;go_wp2_with fail
       go_ret2
       exact ⟨_,by rw [HOK.out,HR0.out]; rfl,by rw [HRN2.out]; exact hfe.1,hfe.2⟩
      ·rw [if_neg hbig] at hq;have i5:¬(200:Int)<(my:Int):=by omega
       have HQ3:Hid (zDw c (X.drop (i+1)) (Y.map Prod.snd)=R):=zQY (by rw [hf]; exact hq);have hy1:1≤Y.length∧Y.length≤200:=by
        obtain ⟨T,hT⟩:=HPRE.out;have h1:=congrArg List.length hT;rw [List.length_append,HZ0.out,HMY.out] at h1;rw [HMY.out]; omega
       have hs9:HS w wr [aV 25 (.slice ay my cy) (Y.map Prod.fst),aRs Y,aM (.bool false) mb Y.length (inQ (Y.map Prod.snd)),aI (.slice (some ⟨bx,ox,none⟩) m cx) X]:=by rw [HMY.out]; exact hs
       clear hf hrl hq hs;go_wp2_with fail
       go_roundw
       case rel=>exact ⟨i+1,_,Y,rfl,by omega,by go_num,hs9,HT1,hy1,HQ3⟩
       case measure=>simp [intOf]; omega
   ·have i1:¬(i:Int)<(m:Int):=by omega
    have hq:=HQ.out;rw [List.drop_eq_nil_of_le (by rw [HM.out]; omega)] at hq;have hq:some (Z.map Prod.snd)=R:=hq;have HRZ:Hid (R=some (Z.map Prod.snd)):=zQY hq.symm;have hi15:i≤15:=by omega
    have hsrt:=HSx.sortWords (HSx.pick hs [0,1] (by decide)) (Z:=Z) (v:=.slice av z0 cv) (n:=15) 0 1 (by decide) rfl rfl (HS.newV hs 0 rfl) (fun z hz=>by have:=(HT.out z hz).2; omega) (by omega) (by rw [HZ0.out]; omega);clear hq hs;go_wp2_with fail
    refine hsrt.mono ?_;rintro e w6 ⟨rfl,Z',hp,hsr,hs6⟩;have HSR:=zQY hsr;have HPP:=zQY hp;clear hsr hp hsrt;have hs7:HS w w6 [aF (.slice av z0 cv) (Z'.map Prod.snd)]:=((HSx.shutF (HSx.pick hs6 [0,1] (by decide)) (Z:=Z') (v:=.slice av z0 cv) 0 1 (by decide) rfl rfl).pick [0] (by decide));have HFIN:Hid (Z'.map Prod.snd=lwR c l):=zQY (HRS.out _ _ HRZ.out (HPP.out.map _) (HSR.out.imp (fun h=>by omega)));rw [HFIN.out] at hs7;clear hs6;go_wp2_with fail
    go_ret2
    exact ⟨_,by rw [HOK.out,HRZ.out]; rfl,HS.F hs7 0 rfl,hs7.bl⟩
end Go.Proofs.YtlchafedbnihoaaGreat
