/- A row of numbers of the call's own, lengthened by zeros (append of a make). Condition: up to 2^20 numbers. -/
import Derived.Lib.AppendZeros
import Derived.Test.YtlgcdacpjcnjgaaGreatDoorJGIs
import Derived.Deep.RegionLaw
namespace Go.Proofs.YtlgcdacpjcnjgaaGreatDoor
open Go.RowKit
set_option maxRecDepth 20000
set_option maxHeartbeats 8000000
theorem zNK {w:World} {base:Nat} {g n cap m:Nat} {xs:List Value} {ty:TypeId} (hown:w.ownsRow base 3 1 (.slice (some ⟨g,0,none⟩) n cap) n xs) (hm:0<m) (hn:n+m≤1048576) (hbase:base≤w.heap.size) :
  ∃v' w',(Builtin.append_ #[29,3] ty #[.slice (some ⟨g,0,none⟩) n cap,.int .i64 m]).run Tryz.prog w=.ok v' w'∧w'.ownsRow base 3 1 v' (n+m) (xs++List.replicate m (.int .i64 0))∧w.grownBy w' (some g):=by
 obtain ⟨i,hi,hz,hs1,hs2⟩:=info_parts zA8;have ht:=Tryz.underlying29;have htn:=Tryz.underlying3;have hw:IntKind.i64.wrap (m:Int)=m:=by rw [IntKind.wrap_i64]; omega
 have hneg:¬((m:Int)<0):=by omega
 have hm0:m≠0:=by omega
 have h48i:¬(281474976710656<(m:Int)*(i.bytes:Int)):=by rw [hs2]; omega
 have hzc:(Builtin.zeroCells (Value.int .i64 0).cells m).toList=List.replicate m (.int .i64 0):=by
  rw [List.eq_replicate_iff];refine ⟨by simp [Builtin.zeroCells,Value.cells],fun b hb=>?_⟩;simp only [Builtin.zeroCells,Value.cells] at hb;simp at hb;obtain ⟨a,_,rfl⟩:=hb;rw [Nat.mod_one];rfl
 rcases hown.2 with ⟨h,_⟩ | ⟨g',cap',cur,hv,hbg,hg,hnc,hcm,hcs,htake⟩
 ·simp at h
 ·simp only [Value.slice.injEq,Option.some.injEq,Addr.mk.injEq,and_true,true_and] at hv;obtain ⟨rfl,rfl⟩:=hv;have hxl:xs.length=n:=by simpa using hown.1
  by_cases hroom:n+m≤cap
  ·have hst:=run_storeCells_at Tryz.prog g (n*1) 3 (List.replicate m (Value.int .i64 0)) 0 cur w hg (by simp; omega) (by intro u hu; rw [List.eq_of_mem_replicate hu]; rfl);simp only [Nat.add_zero,Nat.mul_one,List.length_replicate] at hst;refine ⟨.slice (some ⟨g,0,none⟩) (n+m) cap,w.setRow g (cur.toList.take (n*1)++List.replicate m (Value.int .i64 0)++cur.toList.drop (n*1+m)).toArray,?_,⟨by simp [hxl],.inr ⟨g,cap,_,rfl,hbg,setRow_heap w g cur _ 3 _ hg,hroom,hcm,?_,?_⟩⟩,⟨rfl,rfl,rfl,by simp,fun k _ hk=>setRow_other w g k _ (fun e=>hk (by simp [e]))⟩⟩
   ·simp [Builtin.append_,run_underlying ht,run_underlying htn,sizeOf,typeInfo,zeroValue,hi,hz,hs1,asInt,asIntOf,hw,hm0,hneg,h48i,hroom,hzc,Addr.add_lit,hst]
   ·simp; omega
   ·rw [htake];have:(xs++List.replicate m (Value.int .i64 0)).length=(n+m)*1:=by simp [hxl]
    rw [<-this];exact List.take_left
  ·have h1:¬(n+m≤cap):=hroom;have h63':¬(9223372036854775807<((n:Int)+(m:Int))):=by omega
   have h48:=growslice_fits (need:=n+m) (old:=cap) (bytes:=i.bytes) (by omega) (by rw [hs2]; omega);have h48':¬(281474976710656<Builtin.nextslicecap (n+m) cap*i.bytes):=by omega
   have holds:∀j u,xs[j]? = some u→w.drew.cell? ((⟨g,0,none⟩:Addr).add j)=some u:=hown.cells (g:=g) rfl;have hfo:=run_firstCells_some (P:=Tryz.prog) w.drew i.size n ⟨g,0,none⟩ n cap xs (by rw [hs1,hxl]; omega) holds;have hns:¬(m*i.size=0):=by rw [hs1]; omega
   refine ⟨.slice (some ⟨w.heap.size,0,none⟩) (n+m) (grownCap w (n+m) cap 3),w.drew.alloc (.cells (xs.toArray++(Builtin.zeroCells (Value.int .i64 0).cells m++Builtin.zeroCells (Value.int .i64 0).cells (grownCap w (n+m) cap 3-(n+m)))) 3),by
    simp [Builtin.append_,run_underlying ht,run_underlying htn,sizeOf,typeInfo,zeroValue,hi,hz,asInt,asIntOf,hw,hm0,hneg,h48i,h1,h63',h48',Question.forced,hfo,newRow,grownCap,hns],?_,?_⟩
   ·refine ⟨by simp [hxl],.inr ⟨w.heap.size,_,_,rfl,hbase,heap_alloc_new w.drew _,grownCap_ge w (n+m) cap _,grownCap_le_maxLen w (n+m) cap _ (by unfold maxLen; omega),?_,?_⟩⟩
    ·have hge:=grownCap_ge w (n+m) cap 3;simp only [Array.size_append,List.size_toArray,size_zeroCells,Value.cells,hxl];simp;omega
    ·have e:(xs.toArray++(Builtin.zeroCells (Value.int .i64 0).cells m++Builtin.zeroCells (Value.int .i64 0).cells (grownCap w (n+m) cap 3-(n+m)))).toList=(xs++List.replicate m (Value.int .i64 0))++(Builtin.zeroCells (Value.int .i64 0).cells (grownCap w (n+m) cap 3-(n+m))).toList:=by
      rw [Array.toList_append,Array.toList_append,hzc,List.append_assoc]
     have hl:(xs++List.replicate m (Value.int .i64 0)).length=(n+m)*1:=by simp [hxl]
     rw [e,<-hl];exact List.take_left
   ·exact ⟨rfl,rfl,rfl,by simp,fun k hk _=>heap_alloc_old w.drew _ hk⟩
theorem zJj {W w:World} {ops:Array Oper} {Q:Exit→Act→World→Prop} {rest:List Oper} {o:Oper} {a:Act} (hgd:o.guard=none) (s x:Operand)
  (ho:o.op=.call { callee:=.builtin .append,args:=#[s,x],argTypes:=#[29,3] })
  {g n cap m:Nat} {l:List Int} (hs:a.eval s=.slice (some ⟨g,0,none⟩) n cap) (hf:FI (New W w) w (.slice (some ⟨g,0,none⟩) n cap) l) (hb:Below W.heap.size W w) (hx:a.eval x=.int .i64 m) (hm:0<m) (hlen:l.length+m≤1048576)
  (h:∀v' w',FI (New W w') w' v' (l++List.replicate m 0)→Below W.heap.size W w'→wpList Tryz.prog ops Q rest (a.put o.dst v') w'):wpList Tryz.prog ops Q (o::rest) a w:=by
 have hln:n=l.length:=by
  rcases hf.1.2 with ⟨h,_⟩ | ⟨_,_,_,hv,_⟩
  ·simp at h
  ·simp only [Value.slice.injEq] at hv; exact hv.2.1
 subst hln;have hg:=hf.2 g rfl;have hown:w.ownsRow W.heap.size 3 1 (.slice (some ⟨g,0,none⟩) l.length cap) l.length (l.map (Value.int .i64)):=by
  refine ⟨hf.1.1,?_⟩;rcases hf.1.2 with h | ⟨g',cap',cur,hv,_,r⟩
  ·exact .inl h
  ·have hv2:=hv;simp only [Value.slice.injEq,Option.some.injEq,Addr.mk.injEq,and_true,true_and] at hv2;exact .inr ⟨g',cap',cur,hv,by rw [<-hv2.1]; exact hg.1,r⟩
 obtain ⟨v',w',hr,h1,h2⟩:=zNK (ty:=o.type) hown hm hlen hb.size;refine Lib.wpList_append_run w hgd s x _ _ ho _ _ hs hx v' w' hr (h v' w' ?_ ?_)
 ·exact FI.of_row (w:=W) h1 (zTI _) (by simp) (by simp)
 ·exact hb.grown h2 hb.size (fun k hk=>by cases hk; exact hg.1)
theorem zNY {w:World} {ops:Array Oper} {o:Oper} {a:Act} {Q:Exit→Act→World→Prop} {W:World} {K:Act→World→Prop} {E:Prop} {Ps:List zAI} (hgd:o.guard=none) (s x:Operand) {t e:TypeId} {z:Value} {bytes:Nat} (ht:Tryz.prog.underlying t=some (.slice e))
  (hinfo:(Tryz.prog.info? e).map (fun i=>(i.zero,i.size,i.bytes))=some (some z,1,bytes)) (hzs:z.cells.size=1) (hby:bytes≤1024)
  (ho:o.op=.call { callee:=.builtin .append,args:=#[s,x],argTypes:=#[t,t] })
  {v:Value} {vs:List Value} {r:Value} (hs:a.eval s=v) {A:Nat→Prop} (h:HSx A W w Ps) (i:Nat) (hi:Ps[i]? = some (aV e v vs)) (hnew:∀b,v.ownBlock=some b→W.heap.size≤b)
  {H:Nat} (hx:a.eval x=.slice (some ⟨H,0,none⟩) 1 1) (hc:w.cell? ⟨H,0,none⟩=some r) (h1:r.oneCell'=true) (hlen:vs.length+1≤67108864)
  (k:∀v' w',HSx A W w' (Ps.set i (aV e v' (vs++[r])))→(∀b,v'.ownBlock=some b→W.heap.size≤b)→K (a.put o.dst v') w'):if Region.wanted o (yielded ops a.tmps)=true then Oper.wp Tryz.prog o a w K Q else E:=by
 have hw:Region.wanted o (yielded ops a.tmps)=true:=by simp [Region.wanted,hgd]
 rw [if_pos hw];exact zJk s x ht hinfo hzs hby ho hs h i hi hnew hx hc h1 hlen k
theorem zC8 {A B:Nat}:∀{L:List (List Int)},L.length≤A→(∀x∈L,x.length≤B)→total L≤A*(B+1):=by
 intro L hA hB;have h1:(L.map List.length).sum≤L.length*B:=by
  clear hA
  induction L with
  | nil=>simp
  | cons x L ih =>
   have:=ih (fun y hy=>hB y (List.mem_cons_of_mem _ hy));have:=hB x (List.mem_cons_self ..);simp only [List.map_cons,List.sum_cons,List.length_cons,Nat.add_mul,Nat.one_mul];omega
 have h2:L.length*B≤A*B:=Nat.mul_le_mul_right _ hA;unfold total;rw [Nat.mul_add,Nat.mul_one];omega
theorem zFg {S S':Nat→Prop} {w:World} {u v:Value} {L:List (List Int)} {n:Nat} (h:RII S w u L) (h':RII S' w v [[2]]) (hq:Sqn L n) (h1:1≤n) (h2:n≤2) (hC:isC L=true) :
  Calls Tryz.prog 149 #[u,v] w fun e w'=>∃r,e=.returned (.tuple #[r,.bool true])∧FII (New w w') w' r (L.map (· ++ [0])++[List.replicate n 0++[2]])∧Below w.heap.size w w':=by
 have mixed:Tryz.prog.follows .mixedOrders=true:=by kernel_rfl
 have hlt:total L≤16777216:=by
  have:=zC8 (A:=2) (B:=2) (L:=L) (by rw [hq.len]; exact h2) (fun r hr=>by rw [hq.row r hr]; exact h2);omega
 have hC2:isC [[2]]=true:=by decide
 have HC1:=zTD (zAr h hlt);have HC2:=zTD (fun (wv:World) (hb:Below w.heap.size w wv)=>zAr (h'.below hb) (by unfold total; decide));rw [hC] at HC1;rw [hC2] at HC2;obtain ⟨a,cap,rfl⟩:=h.form;obtain ⟨a',cap',rfl⟩:=h'.form;have hn:=hq.len;have HR:=zTD hq.row;rw [hn] at h HC1 ⊢;have HM0:Hid (([]:Zl).map Prod.snd=(L.take 0).map (· ++ [0])):=zTD rfl;have HML:Hid ((L.take n).map (· ++ [0])=L.map (· ++ [0])):=zTD (by rw [List.take_of_length_le (by omega)]);have HN:=zTD hn;clear hn hq hC hC2 hlt;go_enter Tryz.func149,Tryz.ntmps149
 go_wp2_with fail
 refine HC1.out.mono ?_;rintro e w1 ⟨rfl,hw1⟩;have b1:=zAu hw1;clear hw1 HC1;go_wp2_with fail
 refine (HC2.out w1 b1).mono ?_;rintro e w2 ⟨rfl,hw2⟩;have b2:=zAC.step b1 (zAu hw2);clear hw2 HC2;have i2:¬((n:Int)+1 > 4):=by omega
 go_wp2_with fail
 obtain ⟨w3,hw3⟩:∃w3,w3=w2.alloc (.cells #[] 29):=⟨_,rfl⟩;have hs1:=zAj (HS.nil b2) hw3;have hs1:=hs1.add (Below.refl _ _) (zA7 []) (F:=NoB) ⟨fun x hx=>by simp at hx,List.Pairwise.nil⟩ (fun b hb=>hb.elim);have hs1:HS w w3 [aV 29 (.slice (some ⟨w2.heap.size,0,none⟩) 0 0) (([]:Zl).map Prod.fst),aRs []]:=hs1;rw [<-hw3];clear hw3;go_loopw [6,7] (fun oo kk wr=>∃(k:Nat) (vo:Value) (Z:Zl),vo=oo∧k≤n∧kk=.int .i64 k∧HS w wr [aV 29 vo (Z.map Prod.fst),aRs Z]∧Hid (Z.map Prod.snd=(L.take k).map (· ++ [0]))) (fun _ kk _=>n-(intOf kk).toNat)
 case atStart=>exact ⟨0,_,[],rfl,Nat.zero_le _,rfl,hs1,HM0⟩
 case round =>
  clear hs1 HM0;obtain ⟨k,vo,Z,rfl,hk,rfl,hs,HM⟩:=hrel;by_cases hkn:k<n
  ·have i1:(k:Int)<(n:Int):=by omega
   have HZL:Hid ((Z.map Prod.fst).length+1≤67108864):=zTD (by have:=congrArg List.length HM.out; simp at this; simp; omega);have hu:=h.below hs.bl;obtain ⟨b3,o3,r3,l3,rfl,hc3,hr3,hl3⟩:=RII.at hu hkn;have e3:=HR.out l3 (zTF hl3.out);obtain ⟨a3,c3,rfl⟩:=hr3.form;have HL3:=zTD hl3.out;rw [e3] at hr3 hc3;have HN3:=zTD e3;have hv2:=hr3;have l0:b3<wr.heap.size:=zTH wr _ hc3;clear e3 hu hl3;go_wp2_with (at_builtin; go_must (refine zAL (W:=wr) rfl _ _ rfl rfl (FI.fresh0 wr) zAm rfl (hv2.below zAm) ?_ ?_))
   ·have:=HN3.out; simp; omega
   ·intro vn wn fn bn _;have fn:FI _ wn vn l3:=fn;obtain ⟨an,cn,en⟩:=fn.form;rw [HN3.out] at en;subst en;obtain ⟨gn,rfl,_⟩:=fn.head (by omega);go_wp2_with (at_builtin; go_must (refine zJj (W:=wr) (m:=1) rfl _ _ rfl rfl fn bn rfl (by omega) (by rw [HN3.out]; omega) ?_))
    intro vz wz fz bz;have fz:FI (New wr wz) wz vz (l3++[0]):=fz;obtain ⟨az,cz,ez⟩:=fz.form;have ezl:(l3++[(0:Int)]).length=n+1:=by have:=HN3.out; simp; omega
    rw [ezl] at ez;subst ez;have hsn:=hs.addI bz fz;have hsn:HS w wz [aV 29 vo (Z.map Prod.fst),aRs Z,aI (.slice az (n+1) cz) (l3++[0])]:=hsn;obtain ⟨q,hq⟩:∃q:Nat,q=n+1:=⟨_,rfl⟩;have HQ:=zTD hq;rw [<-hq] at hsn ⊢;have fz2:FI (New wr wz) wz (.slice az q cz) (l3++[0]):=by rw [hq]; exact fz
    clear hq;obtain ⟨w5,hw5⟩:∃w5,w5=wz.alloc (.cells #[.slice az q cz] 29):=⟨_,rfl⟩;have hs5:=hsn.alloc (.cells #[.slice az q cz] 29);rw [<-hw5] at hs5;have hc5:w5.cell? ⟨wz.heap.size,0,none⟩=some (.slice az q cz):=by rw [hw5]; go_simp
    have HW5:=zTD hw5;have HNV:=zTD (HS.newV hs5 0 rfl);have hone:(Value.slice az q cz).oneCell'=true:=rfl;clear hw5 hsn hs fz fz2 bz fn bn hc3 hr3 hv2 ezl;go_wp2_with (at_builtin; go_must (rw [<-HW5.out]; refine zAH rfl _ _ rfl rfl hs5 0 rfl HNV.out rfl hc5 hone HZL.out ?_))
    intro v6 w6 hs6 _;have hs7:=(hs6.moreS 1 2 (by decide) rfl rfl (Z':=Z++[(.slice az q cz,l3++[0])]) (List.perm_append_singleton _ _)).pick [0,1] (by decide);have hs7:HS w w6 [aV 29 v6 ((Z++[(Value.slice az q cz,l3++[0])]).map Prod.fst),aRs (Z++[(Value.slice az q cz,l3++[0])])]:=by
     have e:(Z++[(Value.slice az q cz,l3++[0])]).map Prod.fst=Z.map Prod.fst++[Value.slice az q cz]:=by simp
     rw [e]; exact hs7
    have HM2:Hid ((Z++[(Value.slice az q cz,l3++[0])]).map Prod.snd=(L.take (k+1)).map (· ++ [0])):=zTD (by rw [List.map_append,HM.out,zAP HL3.out]; simp);clear hs5 hs6;go_wp2_with fail
    go_roundw
    case rel=>exact ⟨k+1,_,_,rfl,by omega,by go_num,hs7,HM2⟩
    case measure=>simp [intOf]; omega
  ·have i1:¬(k:Int)<(n:Int):=by omega
   have hkn2:k=n:=by omega
   rw [hkn2,HML.out] at HM;clear hkn2 HML;go_wp2_with fail
   go_loopw [6,8] (fun oo kk wr=>∃(k:Nat) (vo:Value) (Z:Zl),vo=oo∧k≤1∧kk=.int .i64 k∧HS w wr [aV 29 vo (Z.map Prod.fst),aRs Z]∧Hid (Z.map Prod.snd=L.map (· ++ [0])++[List.replicate n (0:Int)++[2]].take k)) (fun _ kk _=>1-(intOf kk).toNat)
   case atStart=>exact ⟨0,vo,Z,rfl,Nat.zero_le _,rfl,hs,zTD (by rw [HM.out]; simp)⟩
   case round =>
    clear hs HM hk i1 hkn;obtain ⟨k,vo,Z,rfl,hk,rfl,hs,HM⟩:=hrel;by_cases hkn:k<1
    ·obtain rfl:k=0:=by omega
     have hvb:=h'.below hs.bl;obtain ⟨b4,o4,r4,l4,rfl,hc4,hr4,hl4⟩:=RII.at hvb (j:=0) (by decide);have e4:l4=[2]:=by have:=hl4.out; simpa using this.symm
     subst e4;obtain ⟨a4,c4,rfl⟩:=hr4.form;have hr4:RI S' wr (.slice a4 1 c4) [2]:=hr4;have hc4:wr.cell? ⟨b4,o4,none⟩=some (.slice a4 1 c4):=hc4;have l4:b4<wr.heap.size:=zTH wr _ hc4;have hc4d:wr.drew.cell? ⟨b4,o4,none⟩=some (.slice a4 1 c4):=hc4;have HZL:Hid ((Z.map Prod.fst).length+1≤67108864):=zTD (by have h9:=congrArg List.length HM.out; have:=HN.out; simp only [List.length_map,List.length_append,List.length_take,List.length_cons,List.length_nil] at h9 ⊢; omega);obtain ⟨i0,hi0,hz0,hz1,hz2⟩:=info_parts zA8
     obtain ⟨w9,hrun,hown,hgr⟩:∃w9,(Instr.makeSlice 29 (.int .i64 (n:Int)) (.int .i64 (n:Int))).run Tryz.prog wr.drew=.ok (.slice (some ⟨wr.heap.size,0,none⟩) n n) w9∧w9.ownsRow wr.drew.heap.size 3 1 (.slice (some ⟨wr.drew.heap.size,0,none⟩) n n) n (madeCells (Value.int .i64 0).cells (n*1)).toList∧wr.drew.grownBy w9 none:=run_make_full (P:=Tryz.prog) wr.drew wr.drew.heap.size 29 3 i0 (.int .i64 0) 1 Tryz.underlying29 hi0 hz0 hz1 .i64 .i64 n (by rw [hz2]; omega) (by unfold maxLen; omega) (zTI _);have bb9:Below wr.drew.heap.size wr.drew w9:=(Below.refl _ wr.drew).grown hgr (zTI _) (by simp);have f9:FI (New wr.drew w9) w9 (.slice (some ⟨wr.heap.size,0,none⟩) n n) (List.replicate n 0):=FI.of_row (w:=wr.drew) (by simpa using hown) (zTI _) (by simp) (by simp [toList_madeCells_one,Value.cells])
     have hc9:w9.cell? ⟨b4,o4,none⟩=some (.slice a4 1 c4):=(bb9.cell (p:=⟨b4,o4,none⟩) l4).trans hc4;have hr9:RI S' w9 (.slice a4 1 c4) [2]:=(RI.drew hr4).below bb9;have hs9:=(HSx.drew hs).below bb9;clear hown hgr hi0 hz0 hz1 hz2;go_wp2_with fail
     obtain ⟨q,hq⟩:∃q:Nat,(List.replicate n (0:Int)++[2]).length=q:=⟨_,rfl⟩;have HQ:=zTD hq;have HSD:=zTD (HSx.drew hs);clear hq hs;go_region_law (first
      | (refine zDf (W:=wr.drew) (by rfl) _ _ (by rfl) (by rfl) f9 bb9 (by rfl) hr9 (by simp; omega) ?_; intro v11 w11 f11 b11 _; obtain ⟨a11,c11,e11⟩:=f11.form; rw [HQ.out] at e11; subst e11; have hs11:=HSD.out.addI b11 f11; have hs12:=HSx.alloc hs11 (.cells #[.slice a11 q c11] 29); have hc12:(w11.alloc (.cells #[.slice a11 q c11] 29)).cell? ⟨w11.heap.size,0,none⟩=some (.slice a11 q c11):=by go_simp)
      | (refine zNY (by rfl) _ _ Tryz.underlying24 zCN rfl (by decide) (by rfl) (by rfl) hs12 0 rfl (HS.newV hs12 0 rfl) (by rfl) hc12 rfl HZL.out ?_; intro v13 w13 hs13 _))
     all_goals
      have hs7:=(hs13.moreS 1 2 (by decide) rfl rfl (Z':=Z++[(.slice a11 q c11,List.replicate n 0++[2])]) (List.perm_append_singleton _ _)).pick [0,1] (by decide);have hs7:HS w w13 [aV 29 v13 ((Z++[(Value.slice a11 q c11,List.replicate n 0++[2])]).map Prod.fst),aRs (Z++[(Value.slice a11 q c11,List.replicate n 0++[2])])]:=by
       have e:(Z++[(Value.slice a11 q c11,List.replicate n 0++[(2:Int)])]).map Prod.fst=Z.map Prod.fst++[Value.slice a11 q c11]:=by simp
       rw [e]; exact hs7
      have HM2:Hid ((Z++[(Value.slice a11 q c11,List.replicate n 0++[2])]).map Prod.snd=L.map (· ++ [0])++[List.replicate n (0:Int)++[2]].take 1):=zTD (by rw [List.map_append,HM.out]; simp);clear hs11 hs12 hs13 hc12 f11 b11 hc4 hc4d hc9 hr9 hr4 hs9 f9 bb9 hrun;go_wp2_with fail
      go_roundw
      case rel=>exact ⟨1,_,_,rfl,by omega,by go_num,hs7,HM2⟩
      case measure=>simp [intOf]
    ·obtain rfl:k=1:=by omega
     have hs2:=((hs.shutF (Z:=Z) (v:=vo) 0 1 (by decide) rfl rfl).pick [0] (by decide));have hs3:HS w wr [aF vo (Z.map Prod.snd)]:=hs2;rw [HM.out] at hs3;clear hs hs2;go_wp2_with fail
     go_ret2
     exact ⟨_,rfl,by simpa using hs3.F 0 rfl,hs3.bl⟩
def TcL (L:List (List Int)) (w:World):Ending→World→Prop:=fun e w'=>∃r,e=.returned (.tuple #[r,.bool true])∧FII (New w w') w' r L∧Below w.heap.size w w'
theorem TcL.of {L M:List (List Int)} {w w':World} {r:Value} (h:FII (New w w') w' r L) (hb:Below w.heap.size w w') (e:L=M):TcL M w (.returned (.tuple #[r,.bool true])) w':=by subst e; exact ⟨r,rfl,h,hb⟩
theorem zHz (w:World):Calls Tryz.prog 59 #[.string ⟨#[65,49,126]⟩] w (TcL [[2,-2],[-2,2]] w):=by
 have HC:=zTD (fun wv=>zAo (n:=2) (by omega) wv);go_enter Tryz.func59,Tryz.ntmps59
 go_wp2_with fail
 refine (HC.out w).mono ?_;rintro e w1 ⟨r1,rfl,f1,b1⟩;have hc0:=zAp (i:=0) (j:=1) f1.read (zAw _) (by omega) (by omega) (by omega) (-2) (-2);go_wp2_with fail
 refine hc0.mono ?_;rintro e w2 ⟨r2,rfl,f2,b2'⟩;have b2:=zAC.step b1 b2';go_wp2_with fail
 go_ret2
 exact TcL.of (FC.mono f2 (fun b hb=>⟨Nat.le_trans b1.size hb.1,hb.2⟩)) b2 (by decide)
theorem zH0 (w:World):Calls Tryz.prog 59 #[.string ⟨#[65,50,126]⟩] w (TcL [[2,-1,-1],[-1,2,-1],[-1,-1,2]] w):=by
 have HC:=zTD (fun wv=>zAo (n:=3) (by omega) wv);go_enter Tryz.func59,Tryz.ntmps59
 go_wp2_with fail
 refine (HC.out w).mono ?_;rintro e w1 ⟨r1,rfl,f1,b1⟩;have hc0:=zAp (i:=0) (j:=2) f1.read (zAw _) (by omega) (by omega) (by omega) (-1) (-1);go_wp2_with fail
 refine hc0.mono ?_;rintro e w2 ⟨r2,rfl,f2,b2'⟩;have b2:=zAC.step b1 b2';go_wp2_with fail
 go_ret2
 exact TcL.of (FC.mono f2 (fun b hb=>⟨Nat.le_trans b1.size hb.1,hb.2⟩)) b2 (by decide)
theorem zH1 (w:World):Calls Tryz.prog 59 #[.string ⟨#[65,51,126]⟩] w (TcL [[2,-1,0,-1],[-1,2,-1,0],[0,-1,2,-1],[-1,0,-1,2]] w):=by
 have HC:=zTD (fun wv=>zAo (n:=4) (by omega) wv);go_enter Tryz.func59,Tryz.ntmps59
 go_wp2_with fail
 refine (HC.out w).mono ?_;rintro e w1 ⟨r1,rfl,f1,b1⟩;have hc0:=zAp (i:=0) (j:=3) f1.read (zAw _) (by omega) (by omega) (by omega) (-1) (-1);go_wp2_with fail
 refine hc0.mono ?_;rintro e w2 ⟨r2,rfl,f2,b2'⟩;have b2:=zAC.step b1 b2';go_wp2_with fail
 go_ret2
 exact TcL.of (FC.mono f2 (fun b hb=>⟨Nat.le_trans b1.size hb.1,hb.2⟩)) b2 (by decide)
theorem zH2 (w:World):Calls Tryz.prog 59 #[.string ⟨#[67,50,126]⟩] w (TcL [[2,-1,0],[-2,2,-2],[0,-1,2]] w):=by
 have HC:=zTD (fun wv=>zAo (n:=3) (by omega) wv);go_enter Tryz.func59,Tryz.ntmps59
 go_wp2_with fail
 refine (HC.out w).mono ?_;rintro e w1 ⟨r1,rfl,f1,b1⟩;have hc0:=zAp (i:=0) (j:=1) f1.read (zAw _) (by omega) (by omega) (by omega) (-1) (-2);go_wp2_with fail
 refine hc0.mono ?_;rintro e w2 ⟨r2,rfl,f2,b2'⟩;have b2:=zAC.step b1 b2';have hc1:=zAp (i:=1) (j:=2) f2.read (zBv (zBv (zAw _) (by omega)) (by omega)) (by omega) (by omega) (by omega) (-2) (-1);go_wp2_with fail
 refine hc1.mono ?_;rintro e w3 ⟨r3,rfl,f3,b3'⟩;have b3:=zAC.step b2 b3';go_wp2_with fail
 go_ret2
 exact TcL.of (FC.mono f3 (fun b hb=>⟨Nat.le_trans b2.size hb.1,hb.2⟩)) b3 (by decide)
theorem zH3 (w:World):Calls Tryz.prog 59 #[.string ⟨#[71,50,126]⟩] w (TcL [[2,-1,0],[-1,2,-1],[0,-3,2]] w):=by
 have HC:=zTD (fun wv=>zAo (n:=3) (by omega) wv);go_enter Tryz.func59,Tryz.ntmps59
 go_wp2_with fail
 refine (HC.out w).mono ?_;rintro e w1 ⟨r1,rfl,f1,b1⟩;have hc0:=zAp (i:=1) (j:=2) f1.read (zAw _) (by omega) (by omega) (by omega) (-1) (-3);go_wp2_with fail
 refine hc0.mono ?_;rintro e w2 ⟨r2,rfl,f2,b2'⟩;have b2:=zAC.step b1 b2';go_wp2_with fail
 go_ret2
 exact TcL.of (FC.mono f2 (fun b hb=>⟨Nat.le_trans b1.size hb.1,hb.2⟩)) b2 (by decide)
end Go.Proofs.YtlgcdacpjcnjgaaGreatDoor
