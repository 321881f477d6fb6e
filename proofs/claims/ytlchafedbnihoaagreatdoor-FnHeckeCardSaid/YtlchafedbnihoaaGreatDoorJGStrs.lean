/- Numbers as text, by the program and by the reference. Condition: Go's int. -/
import Derived.Test.YtlchafedbnihoaaGreatDoorJShelf
import Derived.Lib.LaidTab
import Derived.Lib.AppendIntMem
import Derived.Lib.ItoaLen
import Derived.Laws.IdiomStrings
import Derived.Test.YtlchafedbnihoaaGreatDoorJGNrm
import Derived.Lib.Join
namespace Go.Proofs.YtlchafedbnihoaaGreatDoor
open Go.RowKit
set_option maxRecDepth 20000
set_option maxHeartbeats 16000000
def bs (l:List UInt8):ByteArray:=⟨l.toArray⟩
def digs:Nat→Nat→List UInt8→List UInt8
 | 0,_,acc=>acc
 | f+1,u,acc=>if u=0 then acc else digs f (u / 10) (UInt8.ofNat (48+u % 10)::acc)
theorem zGC (f:Nat) (acc:List UInt8):digs f 0 acc=acc:=by cases f <;> simp [digs]
theorem zIB:∀(f u:Nat) (acc:List UInt8),u≠0→u<10 ^ f→digs f u acc=Lib.decDigits u++acc
 | 0,u,acc,h0,h=>by simp at h; omega
 | f+1,u,acc,h0,h=>by
  unfold digs;rw [if_neg h0];by_cases h10:u<10
  ·rw [show u / 10=0 by omega,zGC,Lib.decDigits_one h10,show u % 10=u by omega];rfl
  ·rw [zIB f (u / 10) _ (by omega) (by rw [Nat.pow_succ] at h; omega)]
   conv=>rhs; rw [Lib.decDigits,dif_neg h10]
   simp
theorem zNX (w:World) (x:Int) (k:Nat) (h:x=((48+k:Nat):Int)) (hk:k<100) :
  Sem.run Tryz.prog (convert 22 9 (Value.slice (some ⟨w.heap.size,0,none⟩) 1 1)) (w.alloc (Obj.cells #[Value.int IntKind.u8 x] 5))=.ok (.string (bs [UInt8.ofNat (48+k)])) (w.alloc (Obj.cells #[Value.int IntKind.u8 x] 5)):=by
 subst h;refine run_convert_bytes_back (w.alloc (Obj.cells #[Value.int IntKind.u8 ((48+k:Nat):Int)] 5)) 22 9 5 ⟨w.heap.size,0,none⟩ 1 [UInt8.ofNat (48+k)] Tryz.underlying22 Tryz.underlying5 Tryz.underlying9 ?_;intro j hj;obtain rfl:j=0:=by simpa using hj
 have e:(UInt8.ofNat (48+k)).toNat=48+k:=by simp; omega
 show _=some (Value.int IntKind.u8 (((UInt8.ofNat (48+k)).toNat:Nat):Int));rw [e];go_simp
theorem zAP (a:List UInt8):(bs a).size=a.length:=by simp [bs,ByteArray.size]
theorem zAU (a b:List UInt8):bs a++bs b=bs (a++b):=by
 apply ByteArray.ext;simp [bs]
theorem zKh (m:Int):(¬m.tmod 10<0→m.tmod 10=((m.natAbs % 10:Nat):Int))∧(m.tmod 10<0→m.tmod 10 = -((m.natAbs % 10:Nat):Int)):=by
 rcases Int.natAbs_eq m with h | h
 ·have e:m.tmod 10=((m.natAbs % 10:Nat):Int):=by
   conv=>lhs; rw [h]
   exact (Int.ofNat_tmod m.natAbs 10).symm
  exact ⟨fun _=>e,fun h=>by omega⟩
 ·have e:m.tmod 10 = -((m.natAbs % 10:Nat):Int):=by
   conv=>lhs; rw [h]
   rw [Int.neg_tmod];exact congrArg _ (Int.ofNat_tmod m.natAbs 10).symm
  exact ⟨fun h=>by omega,fun _=>e⟩
theorem zHj (m:Int):(m.tdiv 10).natAbs=m.natAbs / 10:=by rw [Int.natAbs_tdiv]; rfl
theorem zBS {n:Int} {w:World} (h:-9223372036854775808≤n∧n≤9223372036854775807) :
  Calls Tryz.prog 110 #[.int .i64 n] w fun e w'=>e=.returned (.string (bs (Lib.itoa n)))∧Below w.heap.size w w':=by
 by_cases h0:n=0
 ·subst h0;go_enter Tryz.func110,Tryz.ntmps110
  go_wp2_with fail
  go_ret
  exact ⟨by unfold bs Lib.itoa; rw [if_neg (by decide),show (0:Int).toNat=0 from rfl,Lib.decDigits_one (by decide)]; rfl,Below.refl _ _⟩
 ·have i0:(n == 0)=false:=beq_eq_false_iff_ne.2 h0;have hd:=zIB 20 n.natAbs [] (by omega) (by omega);rw [List.append_nil] at hd;have HR:Hid (Lib.itoa n=if n<0 then 45::digs 20 n.natAbs [] else digs 20 n.natAbs []):=zNg (by
   unfold Lib.itoa;rw [hd];by_cases hn:n<0
   ·rw [if_pos hn,if_pos hn]
   ·rw [if_neg hn,if_neg hn,show n.toNat=n.natAbs by omega])
  have HN:=zNg h0;generalize Lib.itoa n=res at *;clear hd h0;go_enter Tryz.func110,Tryz.ntmps110
  go_wp2_with fail
  go_loopw [0,3] (fun x s wr=>∃(f:Nat) (m:Int) (acc:List UInt8),x=.int .i64 m∧s=.string (bs acc)∧acc.length+f≤20∧m.natAbs<10 ^ f∧(-9223372036854775808≤m∧m≤9223372036854775807)∧Hid (digs f m.natAbs acc=digs 20 n.natAbs [])∧Below w.heap.size w wr) (fun x _ _=>(intOf x).natAbs)
  case atStart=>exact ⟨20,n,[],rfl,rfl,by simp,by omega,h,zNg rfl,Below.refl _ _⟩
  case round =>
   obtain ⟨f,m,acc,rfl,rfl,hf,hm,hm2,HD,hb⟩:=hrel;by_cases hm0:m=0
   ·subst hm0;have hD:acc=digs 20 n.natAbs []:=by rw [<-HD.out,show (0:Int).natAbs=0 from rfl,zGC]
    have HD2:=zNg hD;clear HD hD;by_cases hn:n<0
    ·have HR2:Hid (res=45::acc):=zNg (by rw [HR.out,if_pos hn,HD2.out]);have hd:decide (n<0)=true:=decide_eq_true hn;have c1:¬9223372036854775807<1+(bs acc).size:=by rw [zAP]; omega
     have c2:¬9223372036854775807<(ByteArray.mk #[45]).size+(bs acc).size:=by rw [zAP]; simp [ByteArray.size]; omega
     rw [hd];go_wp2_with fail
     go_ret
     exact ⟨by rw [HR2.out]; exact congrArg (fun b=>Ending.returned (Value.string b)) (zAU [45] acc),hb⟩
    ·have HR2:Hid (res=acc):=zNg (by rw [HR.out,if_neg hn,HD2.out]);have hd:decide (n<0)=false:=decide_eq_false hn;rw [hd];go_wp2_with fail
     go_ret
     exact ⟨by rw [HR2.out]; rfl,hb⟩
   ·have i1:(m != 0)=true:=by simpa using hm0
    obtain ⟨k,hk⟩:∃k:Nat,m.natAbs % 10=k:=⟨_,rfl⟩;obtain ⟨g,rfl⟩:∃g,f=g+1:=⟨f-1,by
     rcases Nat.eq_zero_or_pos f with rfl | h
     ·rw [Nat.pow_zero] at hm; omega
     ·omega⟩
    have HD3:Hid (digs g (m.tdiv 10).natAbs ((48+UInt8.ofNat k)::acc)=digs 20 n.natAbs []):=zNg (by
     rw [<-HD.out,zHj]
     conv=>rhs; unfold digs
     rw [if_neg (by omega),hk];rw [UInt8.ofNat_add];rfl)
    have hdm:=zHj m;have hg:(m.tdiv 10).natAbs<10 ^ g:=by rw [zHj]; rw [Nat.pow_succ] at hm; omega
    have HB:Hid (bs [48+UInt8.ofNat k]++bs acc=bs ((48+UInt8.ofNat k)::acc)):=zNg (zAU _ _);have HDM:=zNg hdm;have c1:¬9223372036854775807<(bs [48+UInt8.ofNat k]).size+(bs acc).size:=by rw [zAP,zAP]; simp; omega
    have hf2:acc.length+1+g≤20:=by omega
    clear hdm;have hk9:k≤9:=by omega
    have HK:=zNg hk;have hcv:=zNX wr (48+(k:Int)) k (by omega) (by omega);by_cases hmn:m.tmod 10<0
    ·have i2:m.tmod 10 = -(k:Int):=by rw [(zKh m).2 hmn,hk]
     have i3:-(k:Int)<0:=by omega
     clear hk hmn;go_wp2_with fail
     go_roundw
     case rel=>exact ⟨g,m.tdiv 10,(48+UInt8.ofNat k)::acc,rfl,by rw [HB.out],by simp; omega,hg,by have:=HDM.out; omega,HD3,hb.alloc hb.size _⟩
     case measure=>have:=HDM.out; show (m.tdiv 10).natAbs<m.natAbs; omega
    ·have i2:m.tmod 10=(k:Int):=by rw [(zKh m).1 hmn,hk]
     have i3:¬(k:Int)<0:=by omega
     clear hk hmn;go_wp2_with fail
     go_roundw
     case rel=>exact ⟨g,m.tdiv 10,(48+UInt8.ofNat k)::acc,rfl,by rw [HB.out],by simp; omega,hg,by have:=HDM.out; omega,HD3,hb.alloc hb.size _⟩
     case measure=>have:=HDM.out; show (m.tdiv 10).natAbs<m.natAbs; omega
theorem zL8:(Tryz.prog.info? 9).map (fun i=>(i.zero,i.size,i.bytes))=some (some (.string ⟨#[]⟩),1,16):=by kernel_rfl
def FS (S:Nat→Prop) (w:World) (v:Value) (l:List (List UInt8)):Prop:=w.ownsRow 0 9 1 v l.length (l.map fun x=>Value.string (bs x))∧∀b,v.ownBlock=some b→S b
theorem FS.of_row {B:Nat} {w w':World} {v:Value} {l:List (List UInt8)} {n:Nat} {xs:List Value} (h:w'.ownsRow B 9 1 v n xs) (hB:w.heap.size≤B) (hn:n=l.length) (hx:xs=l.map fun x=>Value.string (bs x)):FS (New w w') w' v l:=by
 subst hn hx;exact ⟨zBp h (Nat.zero_le _),fun b hb=>by have:=h.lt b hb; exact ⟨by omega,this.2⟩⟩
theorem FS.below {S:Nat→Prop} {w w':World} {v:Value} {l:List (List UInt8)} (h:FS S w v l) (hb:Below w.heap.size w w'):FS S w' v l :=
 ⟨zA4 h.1 (fun b hv=>hb.block b (h.1.lt b hv).2),h.2⟩
theorem FS.grow {W w w':World} {v:Value} {l:List (List UInt8)} (h:FS (New W w) w v l) (hb:Below w.heap.size w w'):FS (New W w') w' v l :=
 ⟨(h.below hb).1,fun b hv=>⟨(h.2 b hv).1,Nat.lt_of_lt_of_le (h.2 b hv).2 hb.size⟩⟩
theorem FS.form {S:Nat→Prop} {w:World} {v:Value} {l:List (List UInt8)} (h:FS S w v l):∃a cap,v=.slice a l.length cap:=by
 rcases h.1.2 with ⟨rfl,h0⟩ | ⟨g,cap,cur,rfl,_⟩
 ·exact ⟨none,0,by rw [h0]⟩
 ·exact ⟨_,cap,rfl⟩
theorem FS.empty {W w:World} (hb:Below W.heap.size W w):FS (New W (w.alloc (.cells #[] 9))) (w.alloc (.cells #[] 9)) (.slice (some ⟨w.heap.size,0,none⟩) 0 0) []:=by
 have:=FS.of_row (w:=w) (l:=[]) (World.ownsRow_lit (base:=w.heap.size) (e:=9) (size:=1) w #[] 0 (zNl _) (by unfold maxLen; omega) rfl) (zNl _) rfl rfl;exact ⟨this.1,fun b h=>⟨Nat.le_trans hb.size (this.2 b h).1,(this.2 b h).2⟩⟩
theorem FS.cells {S:Nat→Prop} {w:World} {g n cap:Nat} {l:List (List UInt8)} (h:FS S w (.slice (some ⟨g,0,none⟩) n cap) l) (hn:n=l.length):∀(j:Nat) x,(l.map bs)[j]? = some x→w.cell? ⟨g,0+j,none⟩=some (.string x):=by
 intro j x hj;subst hn;rw [List.getElem?_map] at hj;obtain ⟨y,hy,rfl⟩:=Option.map_eq_some_iff.1 hj;have hl:j<l.length:=(zNj hy).1;have:=h.1.cellAt j (by omega);rw [Nat.zero_add,this,List.getElem?_map,hy];rfl
section
variable {w:World} {ops:Array Oper} {rest:List Oper} {o:Oper} {a:Act} {Q:Exit→Act→World→Prop}
theorem zKm {W:World} {K:Act→World→Prop} (s x:Operand)
  (ho:o.op=.call { callee:=.builtin .append,args:=#[s,x],argTypes:=#[81,81] })
  {v:Value} {l:List (List UInt8)} {y:List UInt8} (hs:a.eval s=v) (hf:FS (New W w) w v l) (hb:Below W.heap.size W w)
  {H:Nat} (hx:a.eval x=.slice (some ⟨H,0,none⟩) 1 1) (hc:w.cell? ⟨H,0,none⟩=some (.string (bs y))) (hlen:l.length+1≤67108864)
  (h:∀v' w',FS (New W w') w' v' (l++[y])→Below W.heap.size W w'→w.grownBy w' v.ownBlock→K (a.put o.dst v') w'):o.wp Tryz.prog a w K Q:=by
 obtain ⟨i0,hi,hz0,hz1,hz2⟩:=info_parts zL8;obtain ⟨hown,hS⟩:=hf;have hown':w.ownsRow W.heap.size 9 1 v l.length (l.map fun x=>Value.string (bs x)):=by
  refine ⟨hown.1,?_⟩;rcases hown.2 with h | ⟨g,cap,cur,hv,_,r⟩
  ·exact .inl h
  ·exact .inr ⟨g,cap,cur,hv,(hS g (by rw [hv]; rfl)).1,r⟩
 refine wp_append_own w s x 81 ho W.heap.size 9 i0 (.string ⟨#[]⟩) 1 16 Tryz.underlying81 hi hz0 hz1 hz2 rfl (by decide) v l.length (l.map fun x=>Value.string (bs x)) hs hown' ⟨H,0,none⟩ 1 1 [.string (bs y)] hx rfl ?_ ?_ ?_ ?_ hb.size ?_
 ·intro j u hj
  match j,hj with
  | 0,hj=>simp at hj; subst hj; simpa [Addr.add] using hc
 ·intro u hu; simp at hu; subst hu; rfl
 ·unfold maxLen; omega
 ·omega
 ·intro v' w' h1 h2 _;exact h v' w' (FS.of_row h1 (zNl _) (by simp) (by simp)) (hb.grown h2 hb.size (fun k hk=>(hS k hk).1)) h2
theorem zHw {W:World} {K:Act→World→Prop} {E:Prop} (hgd:o.guard=none) (s x:Operand)
  (ho:o.op=.call { callee:=.builtin .append,args:=#[s,x],argTypes:=#[81,81] })
  {v:Value} {l:List (List UInt8)} {y:List UInt8} (hs:a.eval s=v) (hf:FS (New W w) w v l) (hb:Below W.heap.size W w)
  {H:Nat} (hx:a.eval x=.slice (some ⟨H,0,none⟩) 1 1) (hc:w.cell? ⟨H,0,none⟩=some (.string (bs y))) (hlen:l.length+1≤67108864)
  (h:∀v' w',FS (New W w') w' v' (l++[y])→Below W.heap.size W w'→w.grownBy w' v.ownBlock→K (a.put o.dst v') w') :
  if Region.wanted o (yielded ops a.tmps)=true then Oper.wp Tryz.prog o a w K Q else E:=by
 have hw:Region.wanted o (yielded ops a.tmps)=true:=by simp [Region.wanted,hgd]
 rw [if_pos hw];exact zKm s x ho hs hf hb hx hc hlen h
end
abbrev jn (sep:List UInt8) (xs:List (List UInt8)):List UInt8:=Lib.join xs sep
theorem zMA (sep:List UInt8) (xs:List (List UInt8)) (y:List UInt8):jn sep (xs++[y])=if xs=[] then y else jn sep xs++(sep++y):=by
 cases xs with
 | nil=>simp [Lib.join_one]
 | cons x r =>
  rw [if_neg (by simp)];simp only [jn,List.cons_append,Lib.join_cons,Lib.joinTail];simp
theorem zJp (sep:List UInt8) (m:Nat):∀xs:List (List UInt8),(∀x∈xs,x.length≤m)→(jn sep xs).length≤xs.length*(m+sep.length)
 | [],_=>by simp [jn,Lib.join_nil]
 | x::r,h=>by
  have h1:=h x (by simp);have h2:((r.map (sep ++ ·)).flatten).length≤r.length*(m+sep.length):=by
   clear h1
   induction r with
   | nil=>simp
   | cons y r ih =>
    have h3:=h y (by simp);have:=ih (fun z hz=>h z (by rcases List.mem_cons.1 hz with rfl | hz <;> simp [*]));simp only [List.map_cons,List.flatten_cons,List.length_append,List.length_cons] at this ⊢;rw [Nat.add_mul];omega
  simp only [jn,Lib.join_cons,Lib.joinTail,List.length_append,List.length_cons];rw [Nat.add_mul];omega
abbrev Tab (B : Nat) (w : World) : Prop := Lib.TabBelow Tryz.prog B w "internal/strconv.uint64pow10" .u64 Lib.pow10Tab
theorem zI2 {w:World} {k:Nat} {os:Array Obj}:Below w.heap.size w (Go.Sort.grow (w.drewN k) os):=Lib.below_grow _ w (zNl _) k os
abbrev InL (l:List Int):Prop:=∀x∈l,-9223372036854775808≤x∧x≤9223372036854775807
theorem zFn (x:List UInt8):(bs x).data.toList=x:=by simp [bs]
theorem zGc {α β:Type} (f:α→β) {l:List α} {k:Nat} {x:α} (h:l[k]? = some x):(l.take (k+1)).map f=(l.take k).map f++[f x]:=by rw [zAV h]; simp
theorem zJq {S:Nat→Prop} {w:World} {v:Value} {xs:List (List UInt8)} {sp:List UInt8} (h:FS S w v xs) (hl:xs.length≤1048576) (hm:∀x∈xs,x.length≤67108864) (hs:sp.length≤64) :
  Calls Tryz.prog 77 #[v,.string (bs sp)] w fun e w'=>e=.returned (.string (bs (jn sp xs)))∧Below w.heap.size w w':=by
 rcases h.1.2 with ⟨rfl,h0⟩ | ⟨g,cap,cur,rfl,_,hg,hnc,hcm,_⟩
 ·have:xs=[]:=List.eq_nil_of_length_eq_zero h0;subst this;refine (Tryz.strings_Join_none none 0 (bs sp) w).mono ?_;rintro e w' ⟨rfl,rfl⟩;exact ⟨rfl,Below.refl _ _⟩
 ·have hlen:=zJp sp 67108864 xs hm;have hmul:xs.length*(67108864+sp.length)≤1048576*67108928:=Nat.mul_le_mul hl (by omega);have e1:(xs.map bs).map (fun x=>x.data.toList)=xs:=by
   rw [List.map_map]
   conv=>rhs; rw [<-List.map_id xs]
   exact List.map_congr_left (fun x _=>zFn x)
  have hc:=Tryz.strings_Join g 0 cap (xs.map bs) (bs sp) w (h.cells rfl) (Array.getElem?_eq_some_iff.1 hg).1 (by simp; omega) (by simpa using hnc) (by rw [e1,zFn]; have:(Lib.join xs sp).length≤_:=hlen; omega);rw [e1,zFn,List.length_map] at hc;exact hc
end Go.Proofs.YtlchafedbnihoaaGreatDoor
