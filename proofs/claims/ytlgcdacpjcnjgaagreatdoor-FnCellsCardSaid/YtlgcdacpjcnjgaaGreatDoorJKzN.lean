/- The table of a small group, by the program. Condition: sizes up to 2^24. -/
import Derived.Test.YtlgcdacpjcnjgaaGreatDoorJGKzD
import Derived.Test.YtlgcdacpjcnjgaaGreatDoorJMad
import Derived.Deep.RegionLaw
namespace Go.Proofs.YtlgcdacpjcnjgaaGreatDoor
open Go.RowKit
set_option maxRecDepth 20000
set_option maxHeartbeats 8000000
def PP (R:List (List (List Int))) (v0 u0:Nat):Nat→Nat→List Int:=fun u v=>if v<v0∨(v=v0∧u<u0) then zAA R v u else []
theorem zMf {c:List (List Int)} (K:KlOk c) {v:Nat} (u:Nat) (hv:v<(elL c).length) (hu:u<(elL c).length) :
  zA4 (elL c) (tabE c (elL c)) (zAA (rws (elL c) (tabE c (elL c)) v)) v u=zAA (klT c) v u:=by
 have h1:=zG4 (elL c) (tabE c (elL c)) (n:=v) (m:=v+1) (by omega);rw [(zD3 K.tab (v+1) (by omega)).1] at h1;have h2:cws (elL c) (tabE c (elL c)) (v+1)=cws (elL c) (tabE c (elL c)) v++[(List.range (elL c).length).map (zA4 (elL c) (tabE c (elL c)) (zAA (cws (elL c) (tabE c (elL c)) v)) v)]:=rfl;have h3:=zGx (elL c) (tabE c (elL c)) v;have h4:(cws (elL c) (tabE c (elL c)) (v+1))[v]? = some ((List.range (elL c).length).map (zA4 (elL c) (tabE c (elL c)) (zAA (cws (elL c) (tabE c (elL c)) v)) v)):=by
  rw [h2,List.getElem?_append_right (by omega),h3,Nat.sub_self]; rfl
 rw [h4] at h1;simp only [Option.some.injEq] at h1;have h5:=congrArg (fun l=>l[u]?) h1;simp only [List.getElem?_map,List.getElem?_range hu,Option.map_some,Option.some.injEq] at h5;rw [(zD3 K.tab v (by omega)).1,h5,<-(zD3 K.tab (v+1) (by omega)).1];exact zKu (elL c) (tabE c (elL c)) (by omega) (by omega)
section
variable {N v0 u0:Nat} {X:Ml} {Z:Zl} {R:List (List (List Int))}
theorem zBR.start (h1:X.length=N) (h2:∀x∈X,x.2=List.replicate N (.slice none 0 0)):zBR N X [] (PP R 0 0):=by
 refine ⟨h1,fun u x hx=>by rw [h2 x (zTF hx),List.length_replicate],fun u x hx v q hq=>.inr ?_⟩;rw [h2 x (zTF hx),List.getElem?_replicate] at hq;split at hq
 ·simp only [Option.some.injEq] at hq;exact ⟨hq.symm,by unfold PP; rw [if_neg (by omega)]⟩
 ·cases hq
theorem zBR.put {s r:Value} {vs:List Value} (h:zBR N X Z (PP R v0 u0)) (hx:X[u0]? = some (s,vs)):zBR N (X.set u0 (s,vs.set v0 r)) (Z++[(r,zAA R v0 u0)]) (PP R v0 (u0+1)):=by
 obtain ⟨h1,h2,h3⟩:=h;have hlt:=(zTG hx).1;refine ⟨by rw [List.length_set]; exact h1,fun u x hu=>?_,fun u x hu v q hq=>?_⟩
 ·by_cases e:u=u0
  ·subst e;rw [List.getElem?_set_self hlt,Option.some.injEq] at hu;subst hu;show (vs.set v0 r).length=N;rw [List.length_set]; exact h2 _ _ hx
  ·rw [List.getElem?_set_ne (Ne.symm e)] at hu;exact h2 u x hu
 ·by_cases e:u=u0
  ·subst e;rw [List.getElem?_set_self hlt,Option.some.injEq] at hu;subst hu;have hq:(vs.set v0 r)[v]? = some q:=hq;by_cases e2:v=v0
   ·subst e2;have hl:v<vs.length:=by have:=(zTG hq).1; rwa [List.length_set] at this
    rw [List.getElem?_set_self hl,Option.some.injEq] at hq;subst hq;refine .inl (List.mem_append.2 (.inr ?_));unfold PP;rw [if_pos (.inr ⟨rfl,by omega⟩)];exact List.mem_singleton.2 rfl
   ·rw [List.getElem?_set_ne (Ne.symm e2)] at hq;have e3:PP R v0 (u+1) u v=PP R v0 u u v:=by
     unfold PP;by_cases e4:v<v0
     ·rw [if_pos (.inl e4),if_pos (.inl e4)]
     ·rw [if_neg (by omega),if_neg (by omega)]
    rw [e3];rcases h3 u _ hx v q hq with h | h
    ·exact .inl (List.mem_append.2 (.inl h))
    ·exact .inr h
  ·rw [List.getElem?_set_ne (Ne.symm e)] at hu;have e3:PP R v0 (u0+1) u v=PP R v0 u0 u v:=by
    unfold PP;by_cases e4:v<v0∨v=v0∧u<u0
    ·rw [if_pos (by omega),if_pos e4]
    ·rw [if_neg (by omega),if_neg e4]
   rw [e3];rcases h3 u x hu v q hq with h | h
   ·exact .inl (List.mem_append.2 (.inl h))
   ·exact .inr h
theorem zBR.like {P P':Nat→Nat→List Int} (h:zBR N X Z P) (he:∀u v,u<N→v<N→P' u v=P u v):zBR N X Z P':=by
 obtain ⟨h1,h2,h3⟩:=h;refine ⟨h1,h2,fun u x hu v q hq=>?_⟩;rw [he u v (by rw [<-h1]; exact (zTG hu).1) (by rw [<-h2 u x hu]; exact (zTG hq).1)];exact h3 u x hu v q hq
theorem zBR.next (h:zBR N X Z (PP R v0 N)):zBR N X Z (PP R (v0+1) 0):=h.like fun u v hu hv=>by
 unfold PP;by_cases e:v<v0+1
 ·rw [if_pos (.inl e),if_pos (by omega)]
 ·rw [if_neg (by omega),if_neg (by omega)]
theorem zBR.fin (h:zBR N X Z (PP R N 0)):zBR N X Z (fun u v=>zAA R v u):=h.like fun u v hu hv=>by
 unfold PP;rw [if_pos (.inl hv)]
end
theorem zLW {X:Ml} {u:Nat} {s:Value} {vs ws:List Value} (hx:X[u]? = some (s,vs)):(X.set u (s,ws)).map Prod.fst=X.map Prod.fst:=by
 rw [List.map_set];refine List.ext_getElem? fun m=>?_;by_cases e1:m=u
 ·subst e1;rw [List.getElem?_set_self (by simpa using (zTG hx).1),List.getElem?_map,hx];rfl
 ·rw [List.getElem?_set_ne (Ne.symm e1)]
theorem MdIn.of {c:List (List Int)} (K:KlOk c) {v u:Nat} (hv:v<(elL c).length):MdIn (elL c) (tabE c (elL c)) c.length (elL c).length (rws (elL c) (tabE c (elL c)) v) (PP (klT c) v u) v where
 tbk:=K.tab
 rows:=K.rows v (by omega)
 en:=rfl
 pr:=fun u' x hx=>by
  unfold PP;rw [if_pos (.inl hx)];exact (zKu (elL c) (tabE c (elL c)) hx (by omega)).symm
abbrev aKz (g:Nat) (x0 x1 x2 x3:Value):zAI:=fun F w=>F g∧w.heap[g]? = some (.cells #[x0,x1,x2,x3] 69 (0,0))
theorem zPx (g:Nat) (x0 x1 x2 x3:Value):zAg (aKz g x0 x1 x2 x3):=fun _ _ _ h k=>⟨h.1,(k g h.1 (Array.getElem?_eq_some_iff.1 h.2).1).trans h.2⟩
section
variable {A:Nat→Prop} {w0 w w1:World} {Ps:List zAI} {g:Nat} {x0 x1 x2 x3:Value}
theorem zQf (h:HSx A w0 w Ps) (x0 x1 x2 x3:Value) (hw:w1=w.alloc (.cells #[x0,x1,x2,x3] 69)):HSx A w0 w1 (Ps++[aKz w.heap.size x0 x1 x2 x3]):=by
 subst hw;exact h.add ((Below.refl _ w).alloc (zTI _) _) (zPx _ _ _ _ _) (F:=fun b=>b=w.heap.size) ⟨rfl,by show (w.heap.push _)[w.heap.size]? = _; simp⟩ (fun b hb=>by subst hb; exact ⟨zTI _,by simp⟩)
theorem HSx.kzCell (h:HSx A w0 w Ps) (i:Nat) (hi:Ps[i]? = some (aKz g x0 x1 x2 x3)):w.cell? ⟨g,0,none⟩=some x0∧w.cell? ⟨g,1,none⟩=some x1∧w.cell? ⟨g,2,none⟩=some x2∧w.cell? ⟨g,3,none⟩=some x3∧w.frozen? ⟨g,3,none⟩=false:=by
 obtain ⟨F,⟨_,hF⟩,_⟩:=HSx.get h i hi;simp [World.cell?,World.frozen?,hF]
theorem HSx.kzK4 (h:HSx A w0 w Ps) (i:Nat) (hi:Ps[i]? = some (aKz g x0 x1 x2 x3)):HSx A w0 w (Ps.set i (aK4 g x0 x1 x2 x3)) :=
 h.imp i hi (zS7 _ _ _ _ _) fun F hF=>by
  obtain ⟨h1,h2⟩:=hF;exact ⟨h1,by simp [World.cell?,h2]⟩
theorem HS.kzPut (h:HS w0 w Ps) (i:Nat) (hi:Ps[i]? = some (aKz g x0 x1 x2 x3)) (r:Value):HS w0 (w.setCell ⟨g,3,none⟩ r) (Ps.set i (aKz g x0 x1 x2 r)):=by
 obtain ⟨F0,hF0,hN0⟩:=HSx.get h i hi;have hz:=zAM w ⟨g,3,none⟩ r;refine h.upd i hi (zPx _ _ _ _ _) (h.bl.setCell ((hN0 g hF0.1).1.elim (fun h=>h.elim) id) _) (by rw [hz]; exact zTI _) fun F hF _=>⟨F,⟨hF.1,?_⟩,fun _ hb=>.inl hb,fun b _ hb=>heap_setCell_other w ⟨g,3,none⟩ b _ (fun e=>hb (by have e:b=g:=e; subst e; exact hF.1))⟩;unfold World.setCell;simp [hF.2,Array.getElem?_modify]
theorem HSx.nilV (h:HSx A w0 w Ps) (e:TypeId):HSx A w0 w (Ps++[aV e (.slice none 0 0) []]) :=
 h.add (Below.refl _ w) (st_V _ _ _) (F:=NoB) ⟨World.ownsRow_nil w 0 e 1,fun b hb=>by simp [Value.ownBlock] at hb⟩ (fun b hb=>hb.elim)
theorem HSx.noRr (h:HSx A w0 w Ps):HSx A w0 w (Ps++[aRr []]):=h.add (Below.refl _ w) (zIL []) (F:=NoB) (fun x hx=>by simp at hx) (fun b hb=>hb.elim)
theorem zPc {w:World} {ops:Array Oper} {o:Oper} {a:Act} {Q:Exit→Act→World→Prop} {W:World} {K:Act→World→Prop} {E:Prop} {Ps:List zAI} (hgd:o.guard=none) (s x:Operand) {t e:TypeId} {z:Value} {bytes:Nat} (ht:Tryz.prog.underlying t=some (.slice e))
  (hinfo:(Tryz.prog.info? e).map (fun i=>(i.zero,i.size,i.bytes))=some (some z,1,bytes)) (hzs:z.cells.size=1) (hby:bytes≤1024)
  (ho:o.op=.call { callee:=.builtin .append,args:=#[s,x],argTypes:=#[t,t] })
  {v:Value} {vs:List Value} {r:Value} (hs:a.eval s=v) (h:HSx A W w Ps) (i:Nat) (hi:Ps[i]? = some (aV e v vs)) (hnew:∀b,v.ownBlock=some b→W.heap.size≤b)
  {H:Nat} (hx:a.eval x=.slice (some ⟨H,0,none⟩) 1 1) (hc:w.cell? ⟨H,0,none⟩=some r) (h1:r.oneCell'=true) (hlen:vs.length+1≤67108864)
  (k:∀v' w',HSx A W w' (Ps.set i (aV e v' (vs++[r])))→(∀b,v'.ownBlock=some b→W.heap.size≤b)→K (a.put o.dst v') w'):if Region.wanted o (yielded ops a.tmps)=true then Oper.wp Tryz.prog o a w K Q else E:=by
 have hw:Region.wanted o (yielded ops a.tmps)=true:=by simp [Region.wanted,hgd]
 rw [if_pos hw];exact zJk s x ht hinfo hzs hby ho hs h i hi hnew hx hc h1 hlen k
theorem HSx.madeV {w2:World} {n:Nat} (h:HSx A w0 w Ps) (e:TypeId) {z:Value} (hown:w2.ownsRow w.heap.size e 1 (.slice (some ⟨w.heap.size,0,none⟩) n n) n (madeCells #[z] n).toList) (hgr:w.grownBy w2 none) :
  HSx A w0 w2 (Ps++[aV e (.slice (some ⟨w.heap.size,0,none⟩) n n) (List.replicate n z)]):=by
 have hb1:Below w.heap.size w w2:=(Below.refl _ w).grown hgr (zTI _) (by simp);have hsz:w.heap.size<w2.heap.size:=(hown.lt _ rfl).2;have e1:(madeCells #[z] n).toList=List.replicate n z:=toList_madeCells_one _ _;rw [e1] at hown;exact h.add hb1 (st_V _ _ _) (F:=fun b=>b=w.heap.size) ⟨by rw [List.length_replicate]; exact zBp hown (Nat.zero_le _),fun b hb=>by simpa [Value.ownBlock] using hb.symm⟩ (fun b hb=>by subst hb; exact ⟨zTI _,hsz⟩)
end
theorem zMx {S:Nat→Prop} {x:Value} {c:List (List Int)} {w:World} (h:RII S w x c) (hm:HasM w) (hl:total c≤16777216) :
  Calls Tryz.prog 51 #[x] w (NewK c w):=by
 have mixed:Tryz.prog.follows .mixedOrders=true:=by kernel_rfl
 have HNK:Hid (NewK c w=fun e w'=>∃p,e=.returned (.tuple #[p,.bool (okK c)])∧(okK c=true→∃g,p=.pointer (some ⟨g,0,none⟩)∧KzA w' g c)∧Below w.heap.size w w'):=zTD rfl;rw [HNK.out];have hfw:=zQd h hm hl;cases hk:okK c with
 | false =>
  rw [hk] at hfw;obtain ⟨aa,ca,rfl⟩:=h.form;clear h hm HNK hk;go_enter Tryz.func51,Tryz.ntmps51
  go_wp2_with fail
  refine hfw.mono ?_;rintro e w1 ⟨p,rfl,_,b1⟩;clear hfw;go_wp2_with fail
  go_ret2
  exact ⟨_,rfl,fun h=>(by cases h),b1⟩
 | true =>
  have K0:=KlOk.of hk;rw [hk] at hfw;have HTB:=zTD (fun (wv:World) (hb:Below w.heap.size w wv)=>zNe (h.below hb) (hm.below hb) hk hl);have HPL:=zTD (fun (wv:World) (S9:Nat→Prop) (v:Value) (hv:RII S9 wv v (elL c))=>zEP hv K0.nod (fun y hy=>⟨zGc ((K0.nf y).1 hy) K0.cart.le,by have:=((K0.nf y).1 hy).le; omega⟩) (by have:=K0.few; omega));have HK0:=zTD K0;have hN24:=K0.few;have hN0:=K0.pos;obtain ⟨aa,ca,rfl⟩:=h.form;clear h hm hk K0 HNK;go_enter Tryz.func51,Tryz.ntmps51
  go_wp2_with fail
  refine hfw.mono ?_;rintro e w1 ⟨p,rfl,hp,b1⟩;have f1:=hp trivial;have hs1:=HSx.addF (HS.nil (Below.refl _ w)) b1 f1;obtain ⟨aE,cE,rfl⟩:=f1.read.form;have hs1:HS w w1 [aF (.slice aE (elL c).length cE) (elL c)]:=hs1;have htb:=HTB.out w1 b1;clear hfw hp f1 b1 HTB;go_wp2_with fail
  refine htb.mono ?_;rintro e w2 ⟨r2,rfl,f2,b2⟩;have hs2:=HSx.addF hs1 b2 f2;have hTL:(tbL c).length=(elL c).length:=by unfold tbL; simp
  obtain ⟨aT,cT,eT⟩:=f2.read.form;rw [hTL] at eT;subst eT;have hs2:HS w w2 [aF (.slice aE (elL c).length cE) (elL c),aF (.slice aT (elL c).length cT) (tbL c)]:=hs2;have hpl:=HPL.out w2 _ _ (HS.F hs2 0 rfl).read;clear htb hs1 f2 b2 hTL HPL;go_wp2_with fail
  refine hpl.mono ?_;rintro e w3 ⟨mb,rfl,hsm⟩;obtain ⟨F3,hF3,hN3⟩:=HSx.get hsm 0 rfl;have hs3:=HSx.add hs2 hsm.bl (st_M _ _ _ _) hF3 (fun b hb=>⟨(hN3 b hb).1.elim (fun h=>h.elim) id,(hN3 b hb).2⟩);have hs3:HS w w3 [aF (.slice aE (elL c).length cE) (elL c),aF (.slice aT (elL c).length cT) (tbL c),aM (.int .i64 0) mb (elL c).length (ixF (elL c) (elL c).length)]:=hs3;clear hpl hs2 hsm hF3 hN3;generalize hN:(elL c).length=N at *;have HN:=zTD hN;clear hN;obtain ⟨w4,hw4⟩:∃w4,w4=w3.alloc (.cells #[.slice aE N cE,.slice aT N cT,.map (some mb),.slice none 0 0] 69):=⟨_,rfl⟩;have hs4:=(((zQf hs3 _ _ _ _ hw4).nilV 24).noVs 29).noRr;generalize hg:w3.heap.size=g at *
  have hs4:HS w w4 [aKz g (.slice aE N cE) (.slice aT N cT) (.map (some mb)) (.slice none 0 0),aF (.slice aE N cE) (elL c),aF (.slice aT N cT) (tbL c),aV 24 (.slice none 0 0) (([]:Ml).map Prod.fst),aVs 29 [],aRr [],aM (.int .i64 0) mb N (ixF (elL c) N)]:=hs4.pick [3,0,1,4,5,6,2] (by decide);have HW4:=zTD hw4;have HG:=zTD hg;clear hs3 hw4 hg;go_wp2_with fail
  rw [HG.out,<-HW4.out];have H0:Hid (([]:Ml).length=0∧∀y∈([]:Ml),y.2=List.replicate N (.slice none 0 0)):=zTD ⟨rfl,fun y hy=>by simp at hy⟩;go_loopw [25] (fun kk wr=>∃(k:Nat) (vp:Value) (X:Ml),k≤N∧kk=.int .i64 k∧HS w wr [aKz g (.slice aE N cE) (.slice aT N cT) (.map (some mb)) vp,aF (.slice aE N cE) (elL c),aF (.slice aT N cT) (tbL c),aV 24 vp (X.map Prod.fst),aVs 29 X,aRr [],aM (.int .i64 0) mb N (ixF (elL c) N)]∧Hid (X.length=k∧∀y∈X,y.2=List.replicate N (.slice none 0 0))) (fun kk _=>N-(intOf kk).toNat)
  case atStart=>exact ⟨0,_,[],Nat.zero_le _,rfl,hs4,H0⟩
  case round =>
   clear hs4 H0;obtain ⟨k,vp,X,hk,rfl,hs,HX⟩:=hrel;by_cases hkN:k<N
   ·have i1:(k:Int)<(N:Int):=by omega
    obtain ⟨av,cv,rfl⟩:=(HSx.formV hs 3 rfl).1;have hml:(X.map Prod.fst).length=k:=by rw [List.length_map]; exact HX.out.1
    rw [hml] at hs;have hc3:=(HSx.kzCell hs 0 rfl).2.2.2.1;have HML:=zTD hml;have hc3d:wr.drew.cell? ⟨g,3,none⟩=some (.slice av k cv):=hc3;have hs8:=HSx.drew hs;obtain ⟨i0,hi0,hz0,hz1,hz2⟩:=info_parts zCN;obtain ⟨w9,hrun,hown,hgr⟩:∃w9,(Instr.makeSlice 24 (.int .i64 (N:Int)) (.int .i64 (N:Int))).run Tryz.prog wr.drew=.ok (.slice (some ⟨wr.heap.size,0,none⟩) N N) w9∧w9.ownsRow wr.drew.heap.size 29 1 (.slice (some ⟨wr.drew.heap.size,0,none⟩) N N) N (madeCells (Value.slice none 0 0).cells (N*1)).toList∧wr.drew.grownBy w9 none:=run_make_full (P:=Tryz.prog) wr.drew wr.drew.heap.size 24 29 i0 (.slice none 0 0) 1 Tryz.underlying24 hi0 hz0 hz1 .i64 .i64 N (by rw [hz2]; omega) (by unfold maxLen; omega) (zTI _);rw [Nat.mul_one] at hown;have hs9:=HSx.madeV hs8 29 hown hgr
    have hs9:HS w w9 [aKz g (.slice aE N cE) (.slice aT N cT) (.map (some mb)) (.slice av k cv),aF (.slice aE N cE) (elL c),aF (.slice aT N cT) (tbL c),aV 24 (.slice av k cv) (X.map Prod.fst),aVs 29 X,aRr [],aM (.int .i64 0) mb N (ixF (elL c) N),aV 29 (.slice (some ⟨wr.heap.size,0,none⟩) N N) (List.replicate N (.slice none 0 0))]:=hs9;have hc9:=(HSx.kzCell hs9 0 rfl).2.2.2.1;have hs10:=HSx.alloc hs9 (.cells #[.slice (some ⟨wr.heap.size,0,none⟩) N N] 24);have hcA:=(HSx.kzCell hs10 0 rfl).2.2.2.1;have hc10:(w9.alloc (.cells #[.slice (some ⟨wr.heap.size,0,none⟩) N N] 24)).cell? ⟨w9.heap.size,0,none⟩=some (.slice (some ⟨wr.heap.size,0,none⟩) N N):=by go_simp
    have HNV:=zTD (HS.newV hs10 3 rfl);have HL1:Hid ((X.map Prod.fst).length+1≤67108864):=zTD (by rw [HML.out]; omega);clear hml hs hs8 hown hgr hi0 hz0 hz1 hz2 hs9;go_wp2_with fail
    go_region_law (refine zPc (by rfl) _ _ Tryz.underlying67 zHc rfl (by decide) (by rfl) (by rfl) hs10 3 rfl HNV.out (by rfl) hc10 rfl HL1.out ?_; intro v11 w11 hs11 _; have hs11:=(HSx.moreVs hs11 4 7 (by decide) rfl rfl).pick [0,1,2,3,4,5,6] (by decide); obtain ⟨a11,c11,e11⟩:=(HSx.formV hs11 3 rfl).1; subst e11; obtain ⟨hc11,hz11⟩:=(HSx.kzCell hs11 0 rfl).2.2.2)
    all_goals
     have HXN:Hid ((X++[(Value.slice (some ⟨wr.heap.size,0,none⟩) N N,List.replicate N (Value.slice none 0 0))]).length=k+1∧∀y∈(X++[(Value.slice (some ⟨wr.heap.size,0,none⟩) N N,List.replicate N (Value.slice none 0 0))]),y.2=List.replicate N (Value.slice none 0 0)):=zTD ⟨by simp [HX.out.1],fun y hy=>by
      rcases List.mem_append.1 hy with hy | hy
      ·exact HX.out.2 y hy
      ·rw [List.mem_singleton] at hy; subst hy; rfl⟩
     have hs12:=HS.kzPut hs11 0 rfl (.slice a11 (X.map Prod.fst++[Value.slice (some ⟨wr.heap.size,0,none⟩) N N]).length c11);have hs12:HS w (w11.setCell ⟨g,3,none⟩ (.slice a11 (X.map Prod.fst++[Value.slice (some ⟨wr.heap.size,0,none⟩) N N]).length c11)) [aKz g (.slice aE N cE) (.slice aT N cT) (.map (some mb)) (.slice a11 (X.map Prod.fst++[Value.slice (some ⟨wr.heap.size,0,none⟩) N N]).length c11),aF (.slice aE N cE) (elL c),aF (.slice aT N cT) (tbL c),aV 24 (.slice a11 (X.map Prod.fst++[Value.slice (some ⟨wr.heap.size,0,none⟩) N N]).length c11) ((X++[(Value.slice (some ⟨wr.heap.size,0,none⟩) N N,List.replicate N (Value.slice none 0 0))]).map Prod.fst),aVs 29 (X++[(Value.slice (some ⟨wr.heap.size,0,none⟩) N N,List.replicate N (Value.slice none 0 0))]),aRr [],aM (.int .i64 0) mb N (ixF (elL c) N)]:=by
      rw [List.map_append]; exact hs12
     have HS12:=zTD hs12;clear hs12 hs11 hs10;go_wp2_with fail
     go_roundw
     case rel=>exact ⟨k+1,_,_,by omega,by go_num,by have:=HS12.out; simpa using this,HXN⟩
     case measure=>simp [intOf]; omega
   ·have i1:¬(k:Int)<(N:Int):=by omega
    have hkN2:k=N:=by omega
    have hL0:=zTD (zBR.start (R:=klT c) (by rw [HX.out.1,hkN2]) HX.out.2);obtain ⟨bP,cP,eP⟩:=(HSx.formV hs 3 rfl).2 (by rw [List.length_map,HX.out.1]; omega);rw [List.length_map,HX.out.1,hkN2] at eP;subst eP;clear hkN2 HX;go_wp2_with fail
    go_loopw [42] (fun vv wr=>∃(v:Nat) (X:Ml) (Z:Zl),v≤N∧vv=.int .i64 v∧HS w wr [aKz g (.slice aE N cE) (.slice aT N cT) (.map (some mb)) (.slice (some ⟨bP,0,none⟩) N cP),aF (.slice aE N cE) (elL c),aF (.slice aT N cT) (tbL c),aV 24 (.slice (some ⟨bP,0,none⟩) N cP) (X.map Prod.fst),aVs 29 X,aRr Z,aM (.int .i64 0) mb N (ixF (elL c) N)]∧Hid (zBR N X Z (PP (klT c) v 0))) (fun vv _=>N-(intOf vv).toNat)
    case atStart=>exact ⟨0,X,[],Nat.zero_le _,rfl,hs,hL0⟩
    case round =>
     clear hs hL0;obtain ⟨v,X,Z,hvN,rfl,hs,HL⟩:=hrel;by_cases hv:v<N
     ·have j1:(v:Int)<(N:Int):=by omega
      go_wp2_with fail
      go_loopw [47] (fun uu wr=>∃(u:Nat) (X:Ml) (Z:Zl),u≤N∧uu=.int .i64 u∧HS w wr [aKz g (.slice aE N cE) (.slice aT N cT) (.map (some mb)) (.slice (some ⟨bP,0,none⟩) N cP),aF (.slice aE N cE) (elL c),aF (.slice aT N cT) (tbL c),aV 24 (.slice (some ⟨bP,0,none⟩) N cP) (X.map Prod.fst),aVs 29 X,aRr Z,aM (.int .i64 0) mb N (ixF (elL c) N)]∧Hid (zBR N X Z (PP (klT c) v u))) (fun uu _=>N-(intOf uu).toNat)
      case atStart=>exact ⟨0,X,Z,Nat.zero_le _,rfl,hs,HL⟩
      case round =>
       clear hs HL;obtain ⟨u,X,Z,huN,rfl,hs,HL⟩:=hrel;by_cases hu:u<N
       ·have j2:(u:Int)<(N:Int):=by omega
        have j3:(0:Int)≤(u:Int):=by omega
        have j4:(0:Int)≤(v:Int):=by omega
        have hNc:(elL c).length=N:=HN.out;have hmd:Calls Tryz.prog 92 #[.pointer (some ⟨g,0,none⟩),.int .i64 u,.int .i64 v] wr.drew fun e w'=>∃r,e=.returned r∧FI (New wr.drew w') w' r (zAA (klT c) v u)∧Below wr.drew.heap.size wr.drew w':=by
         have hs2:=HSx.kzK4 hs 0 rfl;obtain ⟨bE,oE,bT,oT,bP',cP',_,_,_,K⟩:=HSx.kz (E:=elL c) (T:=tbL c) (tab:=tabE c (elL c)) (r:=c.length) hs2 0 1 2 3 4 5 rfl rfl rfl rfl rfl rfl HL.out (by omega) hNc (by unfold tbL; rw [List.length_map]; exact hNc)
          (fun z hz=>by obtain ⟨y,h1,_,h3,_⟩:=HK0.out.at (z:=z) (by omega); exact ⟨y,h1,h3.symm⟩)
          (fun z h0 hz=>HK0.out.head (by omega) h0)
          (fun z i hz hi=>HK0.out.trow (by omega) hi)
         have I:=MdIn.of HK0.out (v:=v) (u:=u) (by omega);rw [hNc] at I;have:=zOt (K.below (Below.refl _ wr).drew) I hu hv;rwa [zMf HK0.out u (by omega) (by omega)] at this
        obtain ⟨⟨s,vs⟩,hx⟩:∃x,X[u]? = some x:=⟨_,zTE (by rw [HL.out.1]; exact hu)⟩;have hvl:vs.length=N:=HL.out.2.1 u _ hx;obtain ⟨g2,c2,es0⟩:=(HSx.formVs hs 4 rfl hx).2 (by rw [show (s,vs).2.length=N from hvl]; omega);have es:s=.slice (some ⟨g2,0,none⟩) vs.length c2:=es0;clear es0;rw [hvl] at es;subst es;obtain ⟨q,hq⟩:∃q,vs[v]? = some q:=⟨_,zTE (by rw [hvl]; exact hv)⟩;have hc3:=(HSx.kzCell hs 0 rfl).2.2.2.1;have hc4:=(HSx.cellV hs 3 rfl (j:=u) (r:=.slice (some ⟨g2,0,none⟩) N c2) (by rw [List.getElem?_map,hx]; rfl)).1;have hsd:=HSx.drew hs;have hc3d:wr.drew.cell? ⟨g,3,none⟩=some (.slice (some ⟨bP,0,none⟩) N cP):=hc3;have hc4d:wr.drew.cell? ⟨bP,u,none⟩=some (.slice (some ⟨g2,0,none⟩) N c2):=hc4;have HX:=zTD hx;have HQ:=zTD hq;have hnew:=HS.newVs hsd 4 rfl hx g2 rfl;clear hs hvl hx hq hNc hc3 hc4;go_wp2_with fail
        go_region_with (first | (go_at_call 92; refine hmd.mono ?_; rintro e w9 ⟨r9,rfl,f9,b9⟩; obtain ⟨a9,c9,e9⟩:=f9.form; subst e9; have hs9:=HSx.addI hsd b9 f9; have D1:=(HSx.kzCell hs9 0 rfl).2.2.2.1; have D2:=(HSx.cellV hs9 3 rfl (j:=u) (r:=.slice (some ⟨g2,0,none⟩) N c2) (by rw [List.getElem?_map,HX.out]; rfl)).1; obtain ⟨D3,D4⟩:=HSx.cellVs hs9 4 rfl HX.out HQ.out))
        all_goals
         have hsA:=(HSx.putVs hs9 4 rfl HX.out hnew v (.slice a9 (zAA (klT c) v u).length c9)).imp 7 (P':=aL (.slice a9 (zAA (klT c) v u).length c9) (zAA (klT c) v u)) rfl (st_L _ _) (fun _ hF=>FI.reads hF);have hsB:=(HSx.moreR hsA 5 7 (by decide) rfl rfl (Z':=Z++[(.slice a9 (zAA (klT c) v u).length c9,zAA (klT c) v u)]) (List.perm_append_singleton _ _)).pick [0,1,2,3,4,5,6] (by decide)
         have hsC:HS w (w9.setCell ⟨g2,v,none⟩ (.slice a9 (zAA (klT c) v u).length c9)) [aKz g (.slice aE N cE) (.slice aT N cT) (.map (some mb)) (.slice (some ⟨bP,0,none⟩) N cP),aF (.slice aE N cE) (elL c),aF (.slice aT N cT) (tbL c),aV 24 (.slice (some ⟨bP,0,none⟩) N cP) ((X.set u (.slice (some ⟨g2,0,none⟩) N c2,vs.set v (.slice a9 (zAA (klT c) v u).length c9))).map Prod.fst),aVs 29 (X.set u (.slice (some ⟨g2,0,none⟩) N c2,vs.set v (.slice a9 (zAA (klT c) v u).length c9))),aRr (Z++[(.slice a9 (zAA (klT c) v u).length c9,zAA (klT c) v u)]),aM (.int .i64 0) mb N (ixF (elL c) N)]:=by
          rw [zLW HX.out]; exact hsB
         have HLN:=zTD (zBR.put (r:=.slice a9 (zAA (klT c) v u).length c9) HL.out HX.out);have HSC:=zTD hsC;clear hsA hsB hsC hs9 hsd D1 D2 D3 D4 hc3d hc4d hmd f9 b9;go_wp2_with fail
         go_roundw
         case rel=>exact ⟨u+1,_,_,by omega,by go_num,HSC.out,HLN⟩
         case measure=>simp [intOf]; omega
       ·have j2:¬(u:Int)<(N:Int):=by omega
        have huN2:u=N:=by omega
        rw [huN2] at HL;have HL2:=zTD HL.out.next;clear HL huN2;go_wp2_with fail
        go_roundw
        case rel=>exact ⟨v+1,X,Z,by omega,by go_num,hs,HL2⟩
        case measure=>simp [intOf]; omega
     ·have j1:¬(v:Int)<(N:Int):=by omega
      have hvN2:v=N:=by omega
      rw [hvN2] at HL;have HA:Hid (KzA wr g c):=zTD (by
       have hNc:(elL c).length=N:=HN.out;have hs2:=HSx.kzK4 hs 0 rfl;obtain ⟨bE,oE,bT,oT,bP',cP',e1,e2,_,K⟩:=HSx.kz (E:=elL c) (T:=tbL c) (tab:=tabE c (elL c)) (r:=c.length) hs2 0 1 2 3 4 5 rfl rfl rfl rfl rfl rfl HL.out.fin (by omega) hNc (by unfold tbL; rw [List.length_map]; exact hNc)
        (fun z hz=>by obtain ⟨y,h1,_,h3,_⟩:=HK0.out.at (z:=z) (by omega); exact ⟨y,h1,h3.symm⟩)
        (fun z h0 hz=>HK0.out.head (by omega) h0)
        (fun z i hz hi=>HK0.out.trow (by omega) hi)
       obtain ⟨F,hM,_⟩:=HSx.get hs 6 rfl;subst hNc;exact ⟨bE,oE,cE,bT,oT,cT,mb,bP',0,cP',K,rfl,hM.2⟩)
      have hbl:=hs.bl;clear hs HL hvN2;go_wp2_with fail
      go_ret2
      exact ⟨_,rfl,⟨g,rfl,HA.out⟩,hbl⟩
end Go.Proofs.YtlgcdacpjcnjgaaGreatDoor
