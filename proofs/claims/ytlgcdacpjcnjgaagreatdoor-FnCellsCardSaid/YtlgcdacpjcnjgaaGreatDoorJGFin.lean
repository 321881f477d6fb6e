/- Determinants of small matrices of whole numbers; the matrices of finite type with at most four points, one by one. No program, no condition. -/
import Derived.KernelRfl
import Derived.Test.YtlgcdacpjcnjgaaGreatDoorJGNrm
namespace Go.Proofs.YtlgcdacpjcnjgaaGreatDoor.Fin
set_option maxRecDepth 20000
def en (c:List (List Int)) (i j:Nat):Int:=(c[i]?.getD [])[j]?.getD 0
def cut (j:Nat) (r:List Int):List Int:=r.take j++r.drop (j+1)
def without (m:List (List Int)) (j:Nat):List (List Int):=(m.drop 1).map (cut j)
def sum (f:Nat→Int):Nat→Int
 | 0=>0
 | k+1=>sum f k+f k
def sgn (j:Nat) (x:Int):Int:=if j % 2=1 then -x else x
def det:Nat→List (List Int)→Int
 | 0,_=>1
 | n+1,m=>sum (fun j=>sgn j (en m 0 j*det n (without m j))) (n+1)
def bits:Nat→Nat→List Nat
 | 0,_=>[]
 | n+1,k=>bits n k++if k / 2 ^ n % 2=1 then [n] else []
def sub (c:List (List Int)) (s:List Nat):List (List Int):=s.map fun i=>s.map fun j=>en c i j
def minor (c:List (List Int)) (n k:Nat):Int:=det (bits n k).length (sub c (bits n k))
def zDH (c:List (List Int)) (n:Nat):Nat→Bool
 | 0=>true
 | k+1=>decide (0<minor c n (k+1)) && zDH c n k
def isFin (c:List (List Int)):Bool:=zDH c c.length (2 ^ c.length-1)
theorem posUp_iff {c:List (List Int)} {n:Nat}:∀{k:Nat},zDH c n k=true↔∀m,1≤m→m≤k→0<minor c n m
 | 0=>by simp [zDH]; omega
 | k+1=>by
  simp only [zDH,Bool.and_eq_true,decide_eq_true_eq];rw [posUp_iff (k:=k)];constructor
  ·rintro ⟨h1,h2⟩ m hm hk;rcases Nat.lt_or_ge k m with h | h
   ·obtain rfl:m=k+1:=by omega
    exact h1
   ·exact h2 m hm h
  ·exact fun h=>⟨h _ (by omega) (zTI _),fun m hm hk=>h m hm (by omega)⟩
theorem zG5 {f:Nat→Int} {B:Nat} (h:∀j,(f j).natAbs≤B):∀k,(sum f k).natAbs≤k*B
 | 0=>by simp [sum]
 | k+1=>by
  have h1:=zG5 h k;have h2:=h k;have h3:=Int.natAbs_add_le (sum f k) (f k);simp only [sum];rw [Nat.succ_mul];omega
def dB (B:Nat):Nat→Nat
 | 0=>1
 | n+1=>(n+1)*(B*dB B n)
def Small (B:Nat) (m:List (List Int)):Prop:=∀r∈m,∀x∈r,x.natAbs≤B
theorem zQP {j:Nat} {r:List Int} {x:Int} (h:x∈cut j r):x∈r:=by
 unfold cut at h;rcases List.mem_append.1 h with h | h
 ·exact List.mem_of_mem_take h
 ·exact List.mem_of_mem_drop h
theorem Small.without {B:Nat} {m:List (List Int)} (h:Small B m) (j:Nat):Small B (without m j):=by
 intro r hr x hx;unfold Fin.without at hr;obtain ⟨r0,h0,rfl⟩:=List.mem_map.1 hr;exact h r0 (List.mem_of_mem_drop h0) x (zQP hx)
theorem Small.en {B:Nat} {m:List (List Int)} (h:Small B m) (i j:Nat):(en m i j).natAbs≤B:=by
 unfold Fin.en;cases hr:m[i]? with
 | none=>simp
 | some r =>
  simp only [Option.getD_some];cases hx:r[j]? with
  | none=>simp
  | some x=>exact h r (zTF hr) x (zTF hx)
theorem zKy (j:Nat) (x:Int):(sgn j x).natAbs=x.natAbs:=by unfold sgn; split <;> simp
theorem zKM {B:Nat}:∀(n:Nat) {m:List (List Int)},Small B m→(det n m).natAbs≤dB B n
 | 0,_,_=>by simp [det,dB]
 | n+1,m,h=>by
  simp only [det,dB];refine zG5 (fun j=>?_) (n+1);rw [zKy,Int.natAbs_mul];exact Nat.mul_le_mul (h.en 0 j) (zKM n (h.without j))
theorem zPl {B:Nat} (n:Nat) {m:List (List Int)} (h:Small B m) (j:Nat):(en m 0 j*det n (without m j)).natAbs≤B*dB B n:=by
 rw [Int.natAbs_mul];exact Nat.mul_le_mul (h.en 0 j) (zKM n (h.without j))
theorem zSy:∀n,n≤3→dB 2000 n≤48000000000
 | 0,_=>by decide
 | 1,_=>by decide
 | 2,_=>by decide
 | 3,_=>by decide
theorem term_bd {n:Nat} (hn:n≤3) {m:List (List Int)} (h:Small 2000 m) (j:Nat):-96000000000000≤en m 0 j*det n (without m j)∧en m 0 j*det n (without m j)≤96000000000000:=by
 have h1:=zPl n h j;have h2:=zSy n hn;have h3:2000*dB 2000 n≤2000*48000000000:=Nat.mul_le_mul_left _ h2;omega
theorem sum_bd {n:Nat} (hn:n≤3) {m:List (List Int)} (h:Small 2000 m) {k:Nat} (hk:k≤4) :
  -384000000000000≤sum (fun j=>sgn j (en m 0 j*det n (without m j))) k∧sum (fun j=>sgn j (en m 0 j*det n (without m j))) k≤384000000000000:=by
 have h1:(sum (fun j=>sgn j (en m 0 j*det n (without m j))) k).natAbs≤k*96000000000000:=zG5 (fun j=>by rw [zKy]; have:=term_bd hn h j; omega) k;have h2:k*96000000000000≤4*96000000000000:=Nat.mul_le_mul_right _ hk;omega
theorem en_at {c:List (List Int)} {i j:Nat} {l:List Int} {x:Int} (h:c[i]? = some l) (h':l[j]? = some x):en c i j=x:=by simp [en,h,h']
theorem cut_step {j k:Nat} {r:List Int} {x:Int} (h:r[k]? = some x):cut j (r.take (k+1))=if k=j then cut j (r.take k) else cut j (r.take k)++[x]:=by
 have hk:k<r.length:=by
  rcases Nat.lt_or_ge k r.length with h' | h'
  ·exact h'
  ·rw [List.getElem?_eq_none h'] at h; cases h
 have hl:(r.take k).length=k:=by simp; omega
 have e:r.take (k+1)=r.take k++[x]:=by rw [List.take_add_one,h]; rfl
 rw [e];generalize r.take k=l at *;unfold cut;subst hl;rcases Nat.lt_trichotomy l.length j with h1 | h1 | h1
 ·rw [if_neg (by omega),List.take_of_length_le (by simp; omega),List.take_of_length_le (by omega),List.drop_of_length_le (by simp; omega),List.drop_of_length_le (by omega)];simp
 ·rw [if_pos h1];subst h1;simp
 ·rw [if_neg (by omega),List.take_append_of_le_length (by omega),List.drop_append_of_le_length (by omega),List.append_assoc]
theorem without_step {m:List (List Int)} {j k:Nat} {r:List Int} (h:m[k+1]? = some r):((m.drop 1).take (k+1)).map (cut j)=((m.drop 1).take k).map (cut j)++[cut j r]:=by
 have e:(m.drop 1)[k]? = some r:=by rw [List.getElem?_drop,Nat.add_comm]; exact h
 rw [List.take_add_one,e];simp
def tab (n:Nat) (f:Nat→Nat→Int):List (List Int):=(List.range n).map fun i=>(List.range n).map fun j=>f i j
theorem zEp {n:Nat} {f:Nat→Nat→Int} {i j:Nat} (hi:i<n) (hj:j<n):en (tab n f) i j=f i j:=by
 simp [en,tab,hi,hj]
structure Sqr (c:List (List Int)) (n:Nat):Prop where
 len:c.length=n
 row:∀r∈c,r.length=n
theorem Sqr.without {m:List (List Int)} {n:Nat} (h:Sqr m (n+1)) {j:Nat} (hj:j≤n):Sqr (without m j) n:=by
 refine ⟨by simp [Fin.without,h.len],fun r hr=>?_⟩;unfold Fin.without at hr;obtain ⟨r0,h0,rfl⟩:=List.mem_map.1 hr;have:=h.row r0 (List.mem_of_mem_drop h0);simp [cut]; omega
theorem zRY (n:Nat) (f:Nat→Nat→Int):Sqr (tab n f) n:=by
 refine ⟨by simp [tab],fun r hr=>?_⟩;obtain ⟨i,_,rfl⟩:=List.mem_map.1 hr;simp
theorem zSn {c:List (List Int)} {n:Nat} (h:Sqr c n):tab n (en c)=c:=by
 refine List.ext_getElem (by simp [tab,h.len]) fun i h1 h2=>?_;simp only [tab,List.getElem_map,List.getElem_range];have hr:(c[i]).length=n:=h.row _ (List.getElem_mem h2);refine List.ext_getElem (by simp [hr]) fun j h3 h4=>?_;simp [en,h2,h4]
theorem bits_lt:∀{n k x:Nat},x∈bits n k→x<n
 | 0,_,_,h=>by simp [bits] at h
 | n+1,k,x,h=>by
  simp only [bits] at h;rcases List.mem_append.1 h with h | h
  ·have:=bits_lt h; omega
  ·split at h
   ·simp at h; omega
   ·simp at h
theorem zP6 {n k:Nat} (h:k<2 ^ n):bits (n+1) k=bits n k:=by
 simp [bits,Nat.div_eq_of_lt h]
theorem zNa {c c':List (List Int)} {s:List Nat} (h:∀i∈s,∀j∈s,en c i j=en c' i j):sub c s=sub c' s:=by
 unfold sub;exact List.map_congr_left fun i hi=>List.map_congr_left fun j hj=>h i hi j hj
theorem zOz {c:List (List Int)} {n k:Nat} (h:k<2 ^ n):minor c (n+1) k=minor (tab n (en c)) n k:=by
 unfold minor;rw [zP6 h];congr 1;exact zNa fun i hi j hj=>(zEp (bits_lt hi) (bits_lt hj)).symm
def opts:List (Int × Int):=[(0,0),(-1,-1),(-1,-2),(-2,-1),(-1,-3),(-3,-1)]
def zDI:Nat→List (List (Int × Int))
 | 0=>[[]]
 | n+1=>opts.flatMap fun o=>(zDI n).map (o :: ·)
theorem zFj:∀{n:Nat} {l:List (Int × Int)},l.length=n→(∀o∈l,o∈opts)→l∈zDI n
 | 0,[],_,_=>by simp [zDI]
 | n+1,o::l,hl,h=>by
  simp only [zDI,List.mem_flatMap,List.mem_map];exact ⟨o,h o (by simp),l,zFj (by simpa using hl) (fun x hx=>h x (by simp [hx])),rfl⟩
def extL (m:List (List Int)) (ps:List (Int × Int)):List (List Int):=List.zipWith (fun r p=>r++[p.1]) m ps++[ps.map (·.2)++[2]]
def fast (a01 a02 a03 a10 a12 a13 a20 a21 a23 a30 a31 a32:Nat):Bool :=
 decide (2*(a01*a10+a03*a30+a13*a31)+(a01*a13*a30+a03*a31*a10)<8) &&
 (decide (2*(a02*a20+a03*a30+a23*a32)+(a02*a23*a30+a03*a32*a20)<8) &&
 (decide (2*(a12*a21+a13*a31+a23*a32)+(a12*a23*a31+a13*a32*a21)<8) &&
 decide (4*(a01*a10+a02*a20+a03*a30+a12*a21+a13*a31+a23*a32) +
  2*(a01*a13*a30+a03*a31*a10+(a02*a23*a30+a03*a32*a20)+(a12*a23*a31+a13*a32*a21)+(a01*a12*a20+a02*a21*a10)) +
  (a01*a12*a23*a30+a01*a13*a32*a20+a02*a21*a13*a30+a02*a23*a31*a10+a03*a31*a12*a20+a03*a32*a21*a10)
  < 16+(a01*a10*(a23*a32)+a02*a20*(a13*a31)+a03*a30*(a12*a21)))))
def zLP:List (List Int)→Bool
 | [[_,a01,a02,a03],[a10,_,a12,a13],[a20,a21,_,a23],[a30,a31,a32,_]] =>
  fast (-a01).toNat (-a02).toNat (-a03).toNat (-a10).toNat (-a12).toNat (-a13).toNat (-a20).toNat (-a21).toNat (-a23).toNat (-a30).toNat (-a31).toNat (-a32).toNat
 | _=>false
def okM:Nat→List (List Int)→Bool
 | 4,c=>zLP c
 | n,c=>zDH c n (2 ^ n-1)
def mats:Nat→List (List (List Int))
 | 0=>[[]]
 | n+1=>(mats n).flatMap fun m=>((zDI n).map (extL m)).filter (okM (n+1))
structure Ent (n:Nat) (f:Nat→Nat→Int):Prop where
 diag:∀i,i<n→f i i=2
 off:∀i j,i<n→j<n→i≠j→-3≤f i j∧f i j≤0
 zero:∀i j,i<n→j<n→(f i j=0↔f j i=0)
theorem zMo {c:List (List Int)} {n i:Nat} (hn:n≤3) (hi:i<n) (h1:en c i i=2) (h2:en c n n=2):minor c (n+1) (2 ^ i+2 ^ n)=4-en c i n*en c n i:=by
 have hb:bits (n+1) (2 ^ i+2 ^ n)=[i,n]:=by
  match n,i,hn,hi with
  | 1,0,_,_=>rfl
  | 2,0,_,_=>rfl
  | 2,1,_,_=>rfl
  | 3,0,_,_=>rfl
  | 3,1,_,_=>rfl
  | 3,2,_,_=>rfl
 unfold minor;rw [hb];simp [sub,det,sum,sgn,without,cut,en];simp [en] at h1 h2;rw [h1,h2];omega
theorem zM8 {x y:Int} (hx:-3≤x∧x≤0) (hy:-3≤y∧y≤0) (h0:x=0↔y=0) (h:0<4-x*y):(x,y)∈opts:=by
 have h1:x=0∨x = -1∨x = -2∨x = -3:=by omega
 have h2:y=0∨y = -1∨y = -2∨y = -3:=by omega
 rcases h1 with rfl | rfl | rfl | rfl <;> rcases h2 with rfl | rfl | rfl | rfl <;> simp [opts] at * <;> omega
theorem zGS {α:Type} {l:List α} (h:l.length=4):∃a b c d,l=[a,b,c,d]:=by match l,h with | [a,b,c,d],_=>exact ⟨a,b,c,d,rfl⟩
theorem zBZ {x:Int} (h:-3≤x∧x≤0):∃a:Nat,x = -(a:Int):=⟨(-x).toNat,by omega⟩
theorem zOv (a01 a02 a03 a10 a12 a13 a20 a21 a23 a30 a31 a32:Int) :
  minor [[2,-a01,-a02,-a03],[-a10,2,-a12,-a13],[-a20,-a21,2,-a23],[-a30,-a31,-a32,2]] 4 11=8-(2*(a01*a10+a03*a30+a13*a31)+(a01*a13*a30+a03*a31*a10)):=by
 have hb:bits 4 11=[0,1,3]:=rfl;unfold minor;rw [hb];simp only [sub,List.map_cons,List.map_nil,List.length_cons,List.length_nil];simp [det,sum,sgn,without,cut,en]
 grind
theorem zOw (a01 a02 a03 a10 a12 a13 a20 a21 a23 a30 a31 a32:Int) :
  minor [[2,-a01,-a02,-a03],[-a10,2,-a12,-a13],[-a20,-a21,2,-a23],[-a30,-a31,-a32,2]] 4 13=8-(2*(a02*a20+a03*a30+a23*a32)+(a02*a23*a30+a03*a32*a20)):=by
 have hb:bits 4 13=[0,2,3]:=rfl;unfold minor;rw [hb];simp only [sub,List.map_cons,List.map_nil,List.length_cons,List.length_nil];simp [det,sum,sgn,without,cut,en]
 grind
theorem zOx (a01 a02 a03 a10 a12 a13 a20 a21 a23 a30 a31 a32:Int) :
  minor [[2,-a01,-a02,-a03],[-a10,2,-a12,-a13],[-a20,-a21,2,-a23],[-a30,-a31,-a32,2]] 4 14=8-(2*(a12*a21+a13*a31+a23*a32)+(a12*a23*a31+a13*a32*a21)):=by
 have hb:bits 4 14=[1,2,3]:=rfl;unfold minor;rw [hb];simp only [sub,List.map_cons,List.map_nil,List.length_cons,List.length_nil];simp [det,sum,sgn,without,cut,en]
 grind
theorem zOy (a01 a02 a03 a10 a12 a13 a20 a21 a23 a30 a31 a32:Int) :
  minor [[2,-a01,-a02,-a03],[-a10,2,-a12,-a13],[-a20,-a21,2,-a23],[-a30,-a31,-a32,2]] 4 15=16+(a01*a10*(a23*a32)+a02*a20*(a13*a31)+a03*a30*(a12*a21))-(4*(a01*a10+a02*a20+a03*a30+a12*a21+a13*a31+a23*a32) +
  2*(a01*a13*a30+a03*a31*a10+(a02*a23*a30+a03*a32*a20)+(a12*a23*a31+a13*a32*a21)+(a01*a12*a20+a02*a21*a10)) +
  (a01*a12*a23*a30+a01*a13*a32*a20+a02*a21*a13*a30+a02*a23*a31*a10+a03*a31*a12*a20+a03*a32*a21*a10)):=by
 have hb:bits 4 15=[0,1,2,3]:=rfl;unfold minor;rw [hb];simp only [sub,List.map_cons,List.map_nil,List.length_cons,List.length_nil];simp [det,sum,sgn,without,cut,en]
 grind
theorem zQc {c:List (List Int)} (hs:Sqr c 4) (he:Ent 4 (en c)) (hp:zDH c 4 15=true):zLP c=true:=by
 obtain ⟨r0,r1,r2,r3,rfl⟩:=zGS hs.len;obtain ⟨x00,x01,x02,x03,rfl⟩:=zGS (hs.row r0 (by simp));obtain ⟨x10,x11,x12,x13,rfl⟩:=zGS (hs.row r1 (by simp));obtain ⟨x20,x21,x22,x23,rfl⟩:=zGS (hs.row r2 (by simp));obtain ⟨x30,x31,x32,x33,rfl⟩:=zGS (hs.row r3 (by simp));have d0:x00=2:=he.diag 0 (by omega);have d1:x11=2:=he.diag 1 (by omega);have d2:x22=2:=he.diag 2 (by omega);have d3:x33=2:=he.diag 3 (by omega);subst d0; subst d1; subst d2; subst d3;obtain ⟨a01,rfl⟩:=zBZ (x:=x01) (he.off 0 1 (by omega) (by omega) (by omega));obtain ⟨a02,rfl⟩:=zBZ (x:=x02) (he.off 0 2 (by omega) (by omega) (by omega));obtain ⟨a03,rfl⟩:=zBZ (x:=x03) (he.off 0 3 (by omega) (by omega) (by omega));obtain ⟨a10,rfl⟩:=zBZ (x:=x10) (he.off 1 0 (by omega) (by omega) (by omega))
 obtain ⟨a12,rfl⟩:=zBZ (x:=x12) (he.off 1 2 (by omega) (by omega) (by omega));obtain ⟨a13,rfl⟩:=zBZ (x:=x13) (he.off 1 3 (by omega) (by omega) (by omega));obtain ⟨a20,rfl⟩:=zBZ (x:=x20) (he.off 2 0 (by omega) (by omega) (by omega));obtain ⟨a21,rfl⟩:=zBZ (x:=x21) (he.off 2 1 (by omega) (by omega) (by omega));obtain ⟨a23,rfl⟩:=zBZ (x:=x23) (he.off 2 3 (by omega) (by omega) (by omega));obtain ⟨a30,rfl⟩:=zBZ (x:=x30) (he.off 3 0 (by omega) (by omega) (by omega));obtain ⟨a31,rfl⟩:=zBZ (x:=x31) (he.off 3 1 (by omega) (by omega) (by omega));obtain ⟨a32,rfl⟩:=zBZ (x:=x32) (he.off 3 2 (by omega) (by omega) (by omega));rw [posUp_iff] at hp;have h1:=hp 11 (by omega) (by omega);have h2:=hp 13 (by omega) (by omega);have h3:=hp 14 (by omega) (by omega);have h4:=hp 15 (by omega) (by omega);rw [zOv] at h1;rw [zOw] at h2;rw [zOx] at h3;rw [zOy] at h4
 unfold zLP fast;simp only [Int.neg_neg,Int.toNat_natCast,Bool.and_eq_true,decide_eq_true_eq];refine ⟨?_,?_,?_,?_⟩
 ·have h:(2*((a01:Int)*a10+a03*a30+a13*a31)+(a01*a13*a30+a03*a31*a10))<8:=by omega
  exact_mod_cast h
 ·have h:(2*((a02:Int)*a20+a03*a30+a23*a32)+(a02*a23*a30+a03*a32*a20))<8:=by omega
  exact_mod_cast h
 ·have h:(2*((a12:Int)*a21+a13*a31+a23*a32)+(a12*a23*a31+a13*a32*a21))<8:=by omega
  exact_mod_cast h
 ·have h:=Int.lt_of_sub_pos h4
  exact_mod_cast h
theorem zId:∀{n:Nat} {c:List (List Int)},n≤4→Sqr c n→Ent n (en c)→zDH c n (2 ^ n-1)=true→c∈mats n
 | 0,c,_,hs,_,_=>by
  have:=List.eq_nil_of_length_eq_zero hs.len;subst this; simp [mats]
 | n+1,c,hn,hs,he,hp=>by
  rw [posUp_iff] at hp;have hm:tab n (en c)∈mats n:=by
   refine zId (by omega) (zRY _ _) ⟨fun i hi=>?_,fun i j hi hj=>?_,fun i j hi hj=>?_⟩ ?_
   ·rw [zEp hi hi]; exact he.diag i (by omega)
   ·rw [zEp hi hj]; exact he.off i j (by omega) (by omega)
   ·rw [zEp hi hj,zEp hj hi]; exact he.zero i j (by omega) (by omega)
   ·rw [posUp_iff];intro k hk hk2;have hpow:2 ^ n≥1:=Nat.one_le_two_pow;rw [<-zOz (by omega)];exact hp k hk (by rw [Nat.pow_succ]; omega)
  let ps:List (Int × Int):=(List.range n).map fun i=>(en c i n,en c n i)
  have hps:ps∈zDI n:=by
   refine zFj (by simp [ps]) fun o ho=>?_;obtain ⟨i,hi,rfl⟩:=List.mem_map.1 ho;have hi:=List.mem_range.1 hi;refine zM8 (he.off i n (by omega) (by omega) (by omega)) (he.off n i (by omega) (by omega) (by omega)) (he.zero i n (by omega) (by omega)) ?_;rw [<-zMo (by omega) hi (he.diag i (by omega)) (he.diag n (by omega))];have h1:2 ^ i≤2 ^ (n-1):=Nat.pow_le_pow_right (by omega) (by omega);have h2:2 ^ n=2*2 ^ (n-1):=by rw [<-Nat.pow_succ']; congr 1; omega
   have h3:1≤2 ^ (n-1):=Nat.one_le_two_pow;have h4:1≤2 ^ i:=Nat.one_le_two_pow;generalize 2 ^ i=p at *;refine hp _ (by omega) (by rw [Nat.pow_succ]; omega)
  have hc:extL (tab n (en c)) ps=c:=by
   have hd:=he.diag n (by omega);refine Eq.trans ?_ (zSn hs);simp only [extL,tab,ps,List.range_succ,List.map_append,List.map_map,List.map_cons,List.map_nil,Function.comp_def];rw [List.zipWith_map,List.zipWith_self,hd]
  simp only [mats,List.mem_flatMap,List.mem_filter,List.mem_map];refine ⟨_,hm,⟨ps,hps,hc⟩,?_⟩;by_cases h3:n=3
  ·subst h3;exact zQc hs he (posUp_iff.2 hp)
  ·unfold okM;split
   ·omega
   ·exact posUp_iff.2 hp
end Go.Proofs.YtlgcdacpjcnjgaaGreatDoor.Fin
namespace Go.Proofs.YtlgcdacpjcnjgaaGreatDoor.Fin
set_option maxRecDepth 200000
def dec (n k:Nat):List (List Int):=tab n fun i j=>if i=j then 2 else -((k / 4 ^ (i*n+j) % 4:Nat):Int)
def K1:List Nat:=[0]
def L1:List (List (List Int)):=K1.map (dec 1)
def K2:List Nat:=[0,20,36,24,52,28]
def L2:List (List (List Int)):=K2.map (dec 2)
def K3:List Nat:=[0,17408,33792,18432,50176,19456,4112,21520,37904,22544,8208,25616,
 4128,21536,12304,4144,68,17476,33860,18500,4180,8276,4196,132,
 17540,4244,72,17480,4184,196,76]
def L3:List (List (List Int)):=K3.map (dec 3)
def K4:List Nat:=[0,272629760,541065216,276824064,809500672,281018368,67125248,339755008,608190464,343949312,134234112,406863872,
 67141632,339771392,201342976,67158016,16777280,289407040,557842496,293601344,83902528,356532288,151011392,83918912,
 33554496,306184256,100679744,16777344,289407104,83902592,50331712,16777408,266240,272896000,541331456,277090304,
 67391488,134500352,67407872,17043520,289673280,558108736,293867584,84168768,151277632,84185152,33820736,306450496,
 100945984,17043584,289673344,84168832,50597952,17043648,528384,273158144,67653632,17305664,289935424,84430912,
 34082880,17305728,50860096,17305792,270336,272900096,67395584,17047616,289677376,84172864,33824832,17047680,
 50602048,17047744,790528,17567808,34345024,17567872,51122240,17567936,274432,17051712,33828928,17051776,
 50606144,17051840,65552,272695312,541130768,276889616,67190800,339820560,608256016,344014864,134299664,406929424,
 67207184,339836944,201408528,67223568,16842832,83968080,151076944,83984464,33620048,100745296,16842896,83968144,
 331792,272961552,67457040,134565904,67473424,17109072,33886288,17109136,593936,67719184,17371216,335888,
 67461136,17113168,131088,272760848,67256336,339886096,134365200,67272720,201474064,67289104,16908368,84033616,
 397328,67522576,17174608,65568,272695328,67190816,339820576,134299680,67207200,201408544,67223584,16842848,
 83968096,331808,67457056,17109088,196624,67321872,134430736,67338256,201539600,67354640,65584,67190832,
 134299696,67207216,201408560,67223600,260,272630020,541065476,276824324,809500932,281018628,67125508,339755268,
 608190724,343949572,134234372,406864132,67141892,339771652,16777540,289407300,557842756,293601604,33554756,306184516,
 16777604,289407364,266500,272896260,541331716,277090564,67391748,17043780,33820996,17043844,528644,273158404,
 17305924,270596,272900356,17047876,65812,272695572,541131028,276889876,67191060,134299924,67207444,16843092,
 131348,272761108,67256596,65828,272695588,67191076,516,272630276,541065732,276824580,809501188,281018884,
 67125764,339755524,16777796,289407556,266756,272896516,17044036,66068,272695828,67191316,264,272630024,
 541065480,276824328,809500936,281018632,67125512,339755272,16777544,289407304,266504,272896264,17043784,65816,
 272695576,67191064,772,272630532,541065988,276824836,809501444,281019140,268,272630028,541065484,276824332,
 809500940,281018636]
def L4:List (List (List Int)):=K4.map (dec 4)
theorem zPt:mats 1=L1:=by decide +kernel
theorem zPu:mats 2=L2:=by
 show (mats 1).flatMap _=_;rw [zPt];decide +kernel
theorem zPv:mats 3=L3:=by
 show (mats 2).flatMap _=_;rw [zPu];decide +kernel
theorem zS4:mats 4=L4:=by
 show (mats 3).flatMap _=_;rw [zPv];decide +kernel
theorem mem_lists {n:Nat} {c:List (List Int)} (h1:1≤n) (hn:n≤4) (hs:Sqr c n) (he:Ent n (en c)) (hp:zDH c n (2 ^ n-1)=true):c∈L1++L2++L3++L4:=by
 have h:=zId hn hs he hp
 match n,h1,hn,h with
 | 1,_,_,h=>rw [zPt] at h; simp [h]
 | 2,_,_,h=>rw [zPu] at h; simp [h]
 | 3,_,_,h=>rw [zPv] at h; simp [h]
 | 4,_,_,h=>rw [zS4] at h; simp [h]
end Go.Proofs.YtlgcdacpjcnjgaaGreatDoor.Fin
namespace Go.Proofs.YtlgcdacpjcnjgaaGreatDoor
open Go.RowKit
set_option maxRecDepth 20000
set_option linter.unusedVariables false
def cRef (n:Nat) (c:List (List Int)) (i:Nat) (b:List Int):List Int:=(List.range n).map fun j=>Cox.sR n (Cox.tr (ent c)) i (num b) j
def zBr (n i:Nat):List Int:=(List.range n).map fun j=>Cox.e i j
def dg (b k:Nat):Nat:=b / 16 ^ k % 16
def sumN (f:Nat→Nat):Nat→Nat
 | 0=>0
 | n+1=>sumN f n+f n
def mkD (n:Nat) (f:Nat→Nat):Nat:=sumN (fun k=>f k*16 ^ k) n
def offN (c:List (List Int)) (k i:Nat):Nat:=if k=i then 0 else (-(ent c k i)).toNat
def upN (n:Nat) (c:List (List Int)) (i b:Nat):Nat:=sumN (fun k=>dg b k*offN c k i) n
def sB (n:Nat) (c:List (List Int)) (i b:Nat):Nat:=mkD n fun j=>if j=i then upN n c i b-dg b i else dg b j
def bfs (n:Nat) (c:List (List Int)):Nat→List Nat→Nat→List Nat
 | 0,T,_=>T
 |f+1,T,k=>match T[k]? with
  | none=>T
  | some b=>bfs n c f ((List.range n).foldl (fun T i=>if dg b i≤upN n c i b && !(T.contains (sB n c i b)) then T++[sB n c i b] else T) T) (k+1)
def zLM (c:List (List Int)):List Nat:=bfs c.length c 30 ((List.range c.length).map (16 ^ ·)) 0
def zE3:List Nat→Bool
 | []=>true
 | x::l=>!(l.contains x) && zE3 l
def chkT (c:List (List Int)) (T:List Nat):Bool :=
 decide (T.length≤24) && (zE3 T && (T.all (fun b=>decide (sumN (dg b) c.length≤12) && decide (mkD c.length (dg b)=b)) &&
 (List.range c.length).all fun i=>T.contains (16 ^ i) && T.all fun b=>decide (b=16 ^ i) || (decide (dg b i≤upN c.length c i b) && (decide (upN c.length c i b-dg b i<16) && (T.contains (sB c.length c i b) && !(decide (sB c.length c i b=16 ^ i)))))))
theorem zQJ:(Fin.L1++Fin.L2++Fin.L3++Fin.L4).all (fun c=>chkT c (zLM c))=true:=by decide +kernel
structure FinP (c:List (List Int)):Prop where
 cart:CartanP c
 pos:Fin.isFin c=true
theorem FinP.listed {c:List (List Int)} (h:FinP c):c∈Fin.L1++Fin.L2++Fin.L3++Fin.L4:=by
 have hk:=h.cart.car;exact Fin.mem_lists h.cart.pos h.cart.le ⟨rfl,h.cart.row⟩ ⟨hk.diag,hk.off,fun i j hi hj=>⟨hk.zero i j hi hj,hk.zero j i hj hi⟩⟩ h.pos
theorem FinP.all {c:List (List Int)} (h:FinP c) {P:List (List Int)→Bool} (hP:(Fin.L1++Fin.L2++Fin.L3++Fin.L4).all P=true):P c=true:=List.all_eq_true.1 hP c h.listed
structure Cor (c:List (List Int)) (T:List (List Int)):Prop where
 len:T.length≤24
 nonneg:∀b∈T,∀x∈b,0≤x
 small:∀b∈T,Cox.dotN (num b) Cox.one c.length≤12
 unit:∀i,i<c.length→zBr c.length i∈T
 perm:∀i,i<c.length→((T.erase (zBr c.length i)).map (cRef c.length c i)).Perm (T.erase (zBr c.length i))
theorem zB4 {n:Nat} {f:Nat→Int} {k:Nat} (hk:k<n):num ((List.range n).map f) k=f k:=by simp [num,hk]
theorem zCy {f f' g:Nat→Int} {n:Nat} (h:∀k,k<n→f k=f' k):Cox.dotN f g n=Cox.dotN f' g n:=by
 rw [Cox.dotN_comm,Cox.dotN_congr (f:=g) h,Cox.dotN_comm]
theorem zFl {α:Type} [DecidableEq α]:∀{l l':List α},l.Nodup→(∀x∈l,x∈l')→l'.length≤l.length→l.Perm l'
 | [],l',_,_,h=>by
  have:l'=[]:=List.eq_nil_of_length_eq_zero (by simpa using h);subst this; exact List.Perm.nil
 | a::l,l',hn,hs,hl=>by
  have ha:=hs a (by simp);have hp:=List.perm_cons_erase ha;refine List.Perm.trans ((zFl (l':=l'.erase a) (List.nodup_cons.1 hn).2 (fun x hx=>?_) ?_).cons a) hp.symm
  ·have hne:x≠a:=fun e=>(List.nodup_cons.1 hn).1 (e ▸ hx);exact (List.mem_erase_of_ne hne).2 (hs x (by simp [hx]))
  ·rw [List.length_erase_of_mem ha];simp at hl;omega
def zCE (n b:Nat):List Int:=(List.range n).map fun k=>(dg b k:Int)
theorem zD1 {n b k:Nat} (hk:k<n):num (zCE n b) k=(dg b k:Int):=zB4 hk
theorem zS0 {n:Nat} (hn:n≤4) {f:Nat→Nat} (hf:∀k,k<n→f k<16) {k:Nat} (hk:k<n):dg (mkD n f) k=f k:=by
 match n,hn,k,hk with
 | 1,_,0,_=>have:=hf 0 (by omega); simp [dg,mkD,sumN]; omega
 | 2,_,0,_=>have:=hf 0 (by omega); have:=hf 1 (by omega); simp [dg,mkD,sumN]; omega
 | 2,_,1,_=>have:=hf 0 (by omega); have:=hf 1 (by omega); simp [dg,mkD,sumN]; omega
 | 3,_,0,_=>have:=hf 0 (by omega); have:=hf 1 (by omega); have:=hf 2 (by omega); simp [dg,mkD,sumN]; omega
 | 3,_,1,_=>have:=hf 0 (by omega); have:=hf 1 (by omega); have:=hf 2 (by omega); simp [dg,mkD,sumN]; omega
 | 3,_,2,_=>have:=hf 0 (by omega); have:=hf 1 (by omega); have:=hf 2 (by omega); simp [dg,mkD,sumN]; omega
 | 4,_,0,_=>have:=hf 0 (by omega); have:=hf 1 (by omega); have:=hf 2 (by omega); have:=hf 3 (by omega); simp [dg,mkD,sumN]; omega
 | 4,_,1,_=>have:=hf 0 (by omega); have:=hf 1 (by omega); have:=hf 2 (by omega); have:=hf 3 (by omega); simp [dg,mkD,sumN]; omega
 | 4,_,2,_=>have:=hf 0 (by omega); have:=hf 1 (by omega); have:=hf 2 (by omega); have:=hf 3 (by omega); simp [dg,mkD,sumN]; omega
 | 4,_,3,_=>have:=hf 0 (by omega); have:=hf 1 (by omega); have:=hf 2 (by omega); have:=hf 3 (by omega); simp [dg,mkD,sumN]; omega
theorem zSz (b k:Nat):dg b k<16:=Nat.mod_lt _ (by omega)
theorem zQT {i k:Nat} (hi:i<4) (hk:k<4):(dg (16 ^ i) k:Int)=Cox.e i k:=by
 match i,hi,k,hk with
 | 0,_,0,_=>rfl
 | 0,_,1,_=>rfl
 | 0,_,2,_=>rfl
 | 0,_,3,_=>rfl
 | 1,_,0,_=>rfl
 | 1,_,1,_=>rfl
 | 1,_,2,_=>rfl
 | 1,_,3,_=>rfl
 | 2,_,0,_=>rfl
 | 2,_,1,_=>rfl
 | 2,_,2,_=>rfl
 | 2,_,3,_=>rfl
 | 3,_,0,_=>rfl
 | 3,_,1,_=>rfl
 | 3,_,2,_=>rfl
 | 3,_,3,_=>rfl
theorem zF9 {n i:Nat} (hn:n≤4) (hi:i<n):zCE n (16 ^ i)=zBr n i :=
 List.map_congr_left fun k hk=>zQT (by omega) (by have:=List.mem_range.1 hk; omega)
theorem zF0 {f g:Nat→Nat}:∀{n:Nat},(∀k,k<n→f k=g k)→sumN f n=sumN g n
 | 0,_=>rfl
 | n+1,h=>by simp only [sumN]; rw [zF0 (fun k hk=>h k (by omega)),h n (by omega)]
theorem zRn {n b b':Nat} (h:mkD n (dg b)=b) (h':mkD n (dg b')=b') (e:zCE n b=zCE n b'):b=b':=by
 rw [<-h,<-h'];refine zF0 fun k hk=>?_;have h1:=zD1 (b:=b) hk;rw [e,zD1 hk] at h1;rw [Int.ofNat_inj.1 h1]
theorem zNi {c:List (List Int)} (hc:CartanP c) {i b:Nat} (hi:i<c.length):∀{n:Nat},n≤c.length→Cox.dotN (fun k=>Cox.tr (ent c) i k) (fun k=>(dg b k:Int)) n=(if i<n then 2*(dg b i:Int) else 0)-(sumN (fun k=>dg b k*offN c k i) n:Int)
 | 0,_=>by simp [Cox.dotN,sumN]
 | n+1,hn=>by
  have ih:=zNi hc (b:=b) hi (n:=n) (by omega);simp only [Cox.dotN,sumN];rw [ih];have hd:=hc.car.diag i hi;by_cases h:n=i
  ·subst h;simp [offN,Cox.tr,hd];omega
  ·have ho:=hc.car.off n i (by omega) hi h;obtain ⟨a,ha⟩:∃a:Nat,ent c n i = -(a:Int):=⟨(-(ent c n i)).toNat,by omega⟩;have e1:Cox.tr (ent c) i n = -(a:Int):=ha;have e2:offN c n i=a:=by unfold offN; rw [if_neg h,ha]; simp
   rw [e1,e2];have e3:(i<n+1)=(i<n):=by apply propext; omega
   simp only [e3];rw [Int.natCast_add,Int.natCast_mul,Int.neg_mul,Int.mul_comm (a:Int)];omega
theorem zRK {c:List (List Int)} (hc:CartanP c) {i b:Nat} (hi:i<c.length) (h1:dg b i≤upN c.length c i b) (h2:upN c.length c i b-dg b i<16):cRef c.length c i (zCE c.length b)=zCE c.length (sB c.length c i b):=by
 unfold cRef
 conv=>rhs; unfold zCE
 refine List.map_congr_left fun j hj=>?_;have hj:=List.mem_range.1 hj;have hd:=zNi hc (b:=b) hi (zTI _);rw [if_pos hi] at hd;unfold Cox.sR;rw [Cox.dotN_congr (h:=fun k=>(dg b k:Int)) (fun k hk=>zD1 hk)];have hd':Cox.dotN (Cox.tr (ent c) i) (fun k=>(dg b k:Int)) c.length=2*(dg b i:Int)-(upN c.length c i b:Int):=hd;rw [hd',zD1 hj];unfold sB;rw [zS0 hc.le (fun k hk=>by split; exact h2; exact zSz _ _) hj];unfold Cox.e;by_cases h:j=i
 ·subst h; simp; omega
 ·simp [h]
theorem zEL:∀{l:List Nat},zE3 l=true→l.Nodup
 | [],_=>List.nodup_nil
 | x::l,h=>by
  simp only [zE3,Bool.and_eq_true,Bool.not_eq_true',List.contains_eq_mem,decide_eq_false_iff_not] at h;exact List.nodup_cons.2 ⟨h.1,zEL h.2⟩
theorem zDm {α β:Type} {f:α→β}:∀{l:List α},(∀x∈l,∀y∈l,f x=f y→x=y)→l.Nodup→(l.map f).Nodup
 | [],_,_=>List.nodup_nil
 | a::l,h,hn=>by
  rw [List.map_cons,List.nodup_cons];refine ⟨fun hm=>?_,zDm (fun x hx y hy=>h x (by simp [hx]) y (by simp [hy])) (List.nodup_cons.1 hn).2⟩;obtain ⟨y,hy,e⟩:=List.mem_map.1 hm;have:=h a (by simp) y (by simp [hy]) e.symm;exact (List.nodup_cons.1 hn).1 (this ▸ hy)
theorem zKs {c:List (List Int)} (hc:CartanP c) {i:Nat} (hi:i<c.length) {b:List Int} (hb:b.length=c.length):cRef c.length c i (cRef c.length c i b)=b:=by
 refine List.ext_getElem (by simp [cRef,hb]) fun j h1 h2=>?_;have hj:j<c.length:=by omega
 have e1:(cRef c.length c i (cRef c.length c i b))[j]=Cox.sR c.length (Cox.tr (ent c)) i (num (cRef c.length c i b)) j:=by simp [cRef]
 have e2:∀k,k<c.length→num (cRef c.length c i b) k=Cox.sR c.length (Cox.tr (ent c)) i (num b) k:=fun k hk=>zB4 hk;have e3:Cox.sR c.length (Cox.tr (ent c)) i (num (cRef c.length c i b)) j=Cox.sR c.length (Cox.tr (ent c)) i (Cox.sR c.length (Cox.tr (ent c)) i (num b)) j:=by
  conv=>lhs; unfold Cox.sR
  conv=>rhs; unfold Cox.sR
  rw [Cox.dotN_congr e2,e2 j hj];rfl
 rw [e1,e3,Cox.sR_two hc.car.tr hi];simp [num,h2]
theorem zK6 {f:Nat→Nat} {g:Nat→Int}:∀{n:Nat},(∀k,k<n→g k=(f k:Int))→Cox.dotN g Cox.one n=(sumN f n:Int)
 | 0,_=>rfl
 | n+1,h=>by
  simp only [Cox.dotN,sumN];rw [zK6 (fun k hk=>h k (by omega)),h n (by omega)];simp [Cox.one]
def cors (c:List (List Int)):List (List Int):=(zLM c).map (zCE c.length)
theorem FinP.cor {c:List (List Int)} (h:FinP c):Cor c (cors c):=by
 have hc:=h.cart;have:=h.all zQJ;unfold chkT at this;simp only [Bool.and_eq_true,decide_eq_true_eq,List.all_eq_true,List.mem_range,List.contains_eq_mem,Bool.or_eq_true,Bool.not_eq_true',decide_eq_false_iff_not] at this;obtain ⟨h1,h2,h3,h4⟩:=this;have hnd:=zEL h2;unfold cors;generalize zLM c=T at *;have hinj:∀x∈T,∀y∈T,zCE c.length x=zCE c.length y→x=y:=fun x hx y hy e=>zRn (h3 x hx).2 (h3 y hy).2 e;have hu:∀i,i<c.length→zBr c.length i∈T.map (zCE c.length):=fun i hi=>List.mem_map.2 ⟨_,(h4 i hi).1,zF9 hc.le hi⟩;refine ⟨by simpa using h1,fun b hb x hx=>?_,fun b hb=>?_,hu,fun i hi=>?_⟩
 ·obtain ⟨b,_,rfl⟩:=List.mem_map.1 hb;obtain ⟨k,_,rfl⟩:=List.mem_map.1 hx;omega
 ·obtain ⟨b,hb',rfl⟩:=List.mem_map.1 hb;rw [zK6 (f:=dg b) (fun k hk=>zD1 hk)];have:=(h3 b hb').1;omega
 ·have hn:=zDm hinj hnd;have hlen:∀b∈T.map (zCE c.length),b.length=c.length:=fun b hb=>by
   obtain ⟨b,_,rfl⟩:=List.mem_map.1 hb;simp [zCE]
  refine zFl (zDm (fun x hx y hy e=>?_) (hn.erase _)) (fun x hx=>?_) (by simp)
  ·have:=congrArg (cRef c.length c i) e;rwa [zKs hc hi (hlen x (List.mem_of_mem_erase hx)),zKs hc hi (hlen y (List.mem_of_mem_erase hy))] at this
  ·obtain ⟨y,hy,rfl⟩:=List.mem_map.1 hx;have hy':=List.mem_of_mem_erase hy;obtain ⟨b,hb,rfl⟩:=List.mem_map.1 hy';have hne:b≠16 ^ i:=fun e=>by
    rw [e,zF9 hc.le hi] at hy;exact (List.Nodup.mem_erase_iff hn).1 hy |>.1 rfl
   rcases (h4 i hi).2 b hb with e | ⟨k1,k2,k3,k4⟩
   ·exact absurd e hne
   ·rw [zRK hc hi k1 k2];refine (List.Nodup.mem_erase_iff hn).2 ⟨fun e=>k4 ?_,List.mem_map.2 ⟨_,k3,rfl⟩⟩;rw [<-zF9 hc.le hi] at e;exact hinj _ k3 _ (h4 i hi).1 e
def prL (n:Nat) (b v:List Int):Int:=Cox.dotN (num b) (num v) n
theorem zKr {n i:Nat} (hi:i<n) (v:List Int):prL n (zBr n i) v=num v i:=by
 unfold prL zBr;rw [zCy (f':=Cox.e i) (fun k hk=>zB4 hk),Cox.dotN_comm,Cox.dotN_e _ _ _ hi]
structure Wt (c T:List (List Int)) (v:List Int):Prop where
 len:v.length=c.length
 bd:∀b∈T,-12012≤prL c.length b v∧prL c.length b v≤12012
theorem zHW {x:Nat→Int} {m:Nat→Int} {B:Int} (hB:0≤B):∀{n:Nat},(∀k,k<n→0≤x k)→(∀k,k<n→-B≤m k∧m k≤B)→-(B*Cox.dotN x Cox.one n)≤Cox.dotN x m n∧Cox.dotN x m n≤B*Cox.dotN x Cox.one n
 | 0,_,_=>by simp [Cox.dotN]
 | n+1,hx,hm=>by
  have h1:=zHW hB (fun k hk=>hx k (by omega)) (fun k hk=>hm k (by omega)) (n:=n);have h2:=hx n (by omega);obtain ⟨h3,h4⟩:=hm n (by omega);have h5:x n*m n≤x n*B:=Int.mul_le_mul_of_nonneg_left h4 h2;have h6:x n*(-B)≤x n*m n:=Int.mul_le_mul_of_nonneg_left h3 h2;have h7:x n*(-B) = -(x n*B):=Int.mul_neg _ _;have e0:Cox.dotN x Cox.one (n+1)=Cox.dotN x Cox.one n+x n:=by simp [Cox.dotN,Cox.one]
  have e1:Cox.dotN x m (n+1)=Cox.dotN x m n+x n*m n:=rfl;have e:B*(Cox.dotN x Cox.one n+x n)=B*Cox.dotN x Cox.one n+x n*B:=by rw [Int.mul_add,Int.mul_comm B (x n)]
  rw [e0,e1,e];omega
theorem zPp {c T:List (List Int)} (hT:Cor c T) {v:List Int} (hl:v.length=c.length) (hv:∀x∈v,-1001≤x∧x≤1001):Wt c T v:=by
 refine ⟨hl,fun b hb=>?_⟩;have h0:∀k,k<c.length→0≤num b k:=fun k _=>by
  unfold num;cases e:b[k]? with
  | none=>simp
  | some x=>exact hT.nonneg b hb x (zTF e)
 have h1:∀k,k<c.length→-1001≤num v k∧num v k≤1001:=fun k hk=>by
  have:num v k=v[k]'(by omega):=by simp [num,show k<v.length by omega]
  rw [this];exact hv _ (List.getElem_mem _)
 have:=zHW (B:=1001) (by omega) h0 h1;have h2:=hT.small b hb;unfold prL;omega
section
variable {c T:List (List Int)} {v:List Int}
theorem Wt.num (h:Wt c T v) (hT:Cor c T) {k:Nat} (hk:k<c.length):-12012≤num v k∧num v k≤12012:=by
 have:=h.bd _ (hT.unit k hk);rwa [zKr hk] at this
theorem Wt.exact {v:List Int} (h:Wt c T v) (hT:Cor c T) (hc:CartanP c) {i k:Nat} (hi:i<c.length) (hk:k<c.length):Proofs.YtlgcdacpjcnjgaaGreatDoor.num (refl c i v) k=Cox.sW (ent c) i (Proofs.YtlgcdacpjcnjgaaGreatDoor.num v) k:=by
 rw [zJO (by rw [h.len]; exact hk)];have h1:=h.num hT hi;have h2:=h.num hT hk;unfold Cox.sW;generalize Proofs.YtlgcdacpjcnjgaaGreatDoor.num v i=x at *;generalize Proofs.YtlgcdacpjcnjgaaGreatDoor.num v k=y at *;have he:ent c k i=2∨ent c k i=0∨ent c k i = -1∨ent c k i = -2∨ent c k i = -3:=by
  by_cases hik:k=i
  ·subst hik; exact .inl (hc.car.diag k hk)
  ·have ho:=hc.car.off k i hk hi hik; omega
 rcases he with e | e | e | e | e <;> rw [e] <;> rw [zFb (x:=x*_) (by omega) (by omega),zFb (by omega) (by omega)]
theorem Wt.turn {v:List Int} (h:Wt c T v) (hT:Cor c T) (hc:CartanP c) {i:Nat} (hi:i<c.length) (b:List Int):prL c.length b (refl c i v)=prL c.length (cRef c.length c i b) v:=by
 unfold prL cRef;rw [Cox.dotN_congr (fun k hk=>h.exact hT hc hi hk),<-Cox.wt_adj (c:=ent c) _ _ hi];exact (zCy (fun k hk=>zB4 hk)).symm
theorem zKq {v:List Int} (hc:CartanP c) {i:Nat} (hi:i<c.length):prL c.length (cRef c.length c i (zBr c.length i)) v = -(num v i):=by
 have h1:∀k,k<c.length→num (cRef c.length c i (zBr c.length i)) k=Cox.e i k*(-1):=fun k hk=>by
  unfold cRef;rw [zB4 hk];unfold Cox.sR;have hu:∀k,k<c.length→num (zBr c.length i) k=Cox.e i k:=fun k hk=>zB4 hk;rw [Cox.dotN_congr hu,Cox.dotN_e _ _ _ hi,hu k hk];have:=hc.car.diag i hi;unfold Cox.tr;rw [this];omega
 unfold prL;rw [zCy (f':=fun k=>-1*Cox.e i k) (fun k hk=>by rw [h1 k hk]; omega),Cox.dotN_comm,Cox.dotN_scale,Cox.dotN_e _ _ _ hi];omega
theorem zE7 (hT:Cor c T) {i:Nat} (hi:i<c.length):T.Perm (zBr c.length i::T.erase (zBr c.length i)):=List.perm_cons_erase (hT.unit i hi)
theorem Wt.step {v:List Int} (h:Wt c T v) (hT:Cor c T) (hc:CartanP c) {i:Nat} (hi:i<c.length):Wt c T (refl c i v):=by
 refine ⟨by rw [zA5,h.len],fun b hb=>?_⟩;rw [h.turn hT hc hi];rcases List.mem_cons.1 ((zE7 hT hi).subset hb) with rfl | hb'
 ·rw [zKq hc hi];have:=h.num hT hi;omega
 ·have:cRef c.length c i b∈T.erase (zBr c.length i):=(hT.perm i hi).subset (List.mem_map.2 ⟨b,hb',rfl⟩);exact h.bd _ (List.mem_of_mem_erase this)
def negs (c T:List (List Int)) (v:List Int):Nat:=T.countP fun b=>decide (prL c.length b v<0)
theorem zMw {v:List Int} (h:Wt c T v) (hT:Cor c T) (hc:CartanP c) {i:Nat} (hi:i<c.length) (hn:num v i<0):negs c T v=negs c T (refl c i v)+1:=by
 unfold negs;rw [(zE7 hT hi).countP_eq,(zE7 hT hi).countP_eq,List.countP_cons,List.countP_cons];have h1:(T.erase (zBr c.length i)).countP (fun b=>decide (prL c.length b (refl c i v)<0))=(T.erase (zBr c.length i)).countP (fun b=>decide (prL c.length b v<0)):=by
  rw [<-(hT.perm i hi).countP_eq (fun b=>decide (prL c.length b v<0)),List.countP_map];congr 1;funext b;simp only [Function.comp_apply];rw [h.turn hT hc hi]
 rw [h1,zKr hi,h.turn hT hc hi,zKq hc hi];have h2:¬ -(num v i)<0:=by omega
 simp [hn];omega
theorem zQz (hT:Cor c T) (v:List Int):negs c T v≤24:=Nat.le_trans List.countP_le_length hT.len
def DomS (c T:List (List Int)) (v:List Int) (m:Nat):Prop:=Wt c T v∧negs c T v=m
theorem zE5 {v:List Int} {i:Nat} (e:zAJ v=some i):num v i<0:=by
 obtain ⟨x,h1,h2,_⟩:=zBu e;rw [zAx h1]; exact h2
theorem DomS.back {v:List Int} {m:Nat} (h:DomS c T v m) (hT:Cor c T) (hc:CartanP c) {i:Nat} (e:zAJ v=some i):∃m',m=m'+1∧DomS c T (refl c i v) m':=by
 have hi:i<c.length:=by have:=zB1 e; rw [h.1.len] at this; exact this
 have:=zMw h.1 hT hc hi (zE5 e);exact ⟨negs c T (refl c i v),by rw [<-h.2]; exact this,h.1.step hT hc hi,rfl⟩
theorem DomS.fuel (hT:Cor c T) (hc:CartanP c):∀(m:Nat) {v:List Int} {f:Nat},DomS c T v m→m≤f→nf c f v=nf c m v
 | 0,v,f,h,_=>by
  have h0:zAJ v=none:=by
   cases e:zAJ v with
   | none=>rfl
   | some i=>obtain ⟨m',hm,_⟩:=h.back hT hc e; omega
  cases f with
  | zero=>rfl
  | succ f=>simp [nf,h0]
 | m+1,v,f,h,hf=>by
  obtain ⟨f,rfl⟩:∃k,f=k+1:=⟨f-1,by omega⟩;simp only [nf];cases e:zAJ v with
  | none=>rfl
  | some i =>
   obtain ⟨m',hm',h3⟩:=h.back hT hc e;have:m'=m:=by omega
   subst this;simp only;rw [DomS.fuel hT hc m' h3 (by omega)]
theorem DomS.le {v:List Int} {m:Nat} (h:DomS c T v m) (hT:Cor c T):m≤24:=by rw [<-h.2]; exact zQz hT v
end
structure Down (c:List (List Int)) (P:List Int→Nat→Prop):Prop where
 len:∀v m,P v m→v.length=c.length
 le:∀v m,P v m→m≤30
 turn:∀v m i,P v m→zAJ v=some i→∃m',m=m'+1∧P (refl c i v) m'∧nf c 30 v=(i:Int)::nf c 30 (refl c i v)
theorem zOY {c T:List (List Int)} (hT:Cor c T) (hc:CartanP c):Down c (DomS c T) :=
 ⟨fun v m h=>h.1.len,fun v m h=>by have:=h.le hT; omega,fun v m i h e=>by
  obtain ⟨m',rfl,h3⟩:=h.back hT hc e;refine ⟨m',rfl,h3,?_⟩;have:=h.le hT;rw [DomS.fuel hT hc (m'+1) h (by omega),DomS.fuel hT hc m' h3 (by omega)];simp [nf,e]⟩
theorem zDy {c:List (List Int)} (hc:CartanP c):Down c (fun v m=>Im c v m∧m≤30) :=
 ⟨fun v m h=>h.1.len,fun v m h=>h.2,fun v m i h e=>by
  obtain ⟨m',rfl,h1,h2⟩:=zCC hc h.1 h.2 e;exact ⟨m',rfl,⟨h1,by have:=h.2; omega⟩,h2⟩⟩
theorem zE0 {c:List (List Int)} {P:List Int→Nat→Prop} (hD:Down c P):∀(m:Nat) {v:List Int},P v m→(nf c 30 v).length≤m
 | 0,v,h=>by
  cases e:zAJ v with
  | none=>simp [nf,e]
  | some i=>obtain ⟨m',hm,_⟩:=hD.turn v 0 i h e; omega
 | m+1,v,h=>by
  cases e:zAJ v with
  | none=>simp [nf,e]
  | some i =>
   obtain ⟨m',hm,h1,h2⟩:=hD.turn v _ i h e;have:m'=m:=by omega
   subst this;rw [h2];have:=zE0 hD m' h1;simp; omega
theorem zFW {c:List (List Int)} {P:List Int→Nat→Prop} (hD:Down c P):∀(m:Nat) {v:List Int},P v m→Lets c.length (nf c 30 v)
 | 0,v,h=>by
  cases e:zAJ v with
  | none=>simp [nf,e,Lets]
  | some i=>obtain ⟨m',hm,_⟩:=hD.turn v 0 i h e; omega
 | m+1,v,h=>by
  cases e:zAJ v with
  | none=>simp [nf,e,Lets]
  | some i =>
   obtain ⟨m',hm,h1,h2⟩:=hD.turn v _ i h e;have:m'=m:=by omega
   subst this;rw [h2];have h3:=zFW hD m' h1;have h4:=zB1 e;have h5:=hD.len v _ h;intro x hx;rcases List.mem_cons.1 hx with rfl | hx
   ·omega
   ·exact h3 x hx
end Go.Proofs.YtlgcdacpjcnjgaaGreatDoor
namespace Go.Proofs.YtlgcdacpjcnjgaaGreatDoor
open Go.RowKit
set_option maxRecDepth 20000
namespace Cox
variable {n:Nat} {c:Nat→Nat→Int}
theorem aW_congr (h:Car n c) {m m':Nat→Int} (hm:∀k,k<n→m k=m' k):∀{w:List Nat},Lets n w→∀k,k<n→aW c w m k=aW c w m' k
 | [],_,k,hk=>hm k hk
 | i::w,hw,k,hk=>by
  have ih:=aW_congr h hm (w:=w) (fun j hj=>hw j (by simp [hj]));have hi:i<n:=hw i (by simp);show sW c i (aW c w m) k=sW c i (aW c w m') k;unfold sW;rw [ih k hk,ih i hi]
theorem zKR (h:Car n c):∀(N:Nat) (w:List Nat),w.length≤N→Lets n w→(∀k,k<n→aW c w one k=1)→w.length % 2=0
 | 0,w,hN,_,_=>by
  have:w.length=0:=by omega
  rw [this]
 | N+1,[],_,_,_=>rfl
 | N+1,i::w,hN,hw,h1=>by
  have hi:i<n:=hw i (by simp);have hw':Lets n w:=fun j hj=>hw j (by simp [hj]);have e:aW c w one i-aW c w one i*c i i=1:=h1 i hi;rw [h.diag i hi] at e;obtain ⟨w',a1,a2,a3⟩:=(image_step h hw' hi).2 (by omega);have h2:∀k,k<n→aW c w' one k=1:=fun k hk=>by rw [<-a3]; exact h1 k hk
  have:=zKR h N w' (by simp at hN; omega) a1 h2;simp;omega
theorem lets_app {a b:List Nat} (ha:Lets n a) (hb:Lets n b):Lets n (a++b):=fun j hj=>by
 rcases List.mem_append.1 hj with h | h
 ·exact ha j h
 ·exact hb j h
theorem parity (h:Car n c) {w w':List Nat} (hw:Lets n w) (hw':Lets n w') (he:∀k,k<n→aW c w one k=aW c w' one k):(w.length+w'.length) % 2=0:=by
 have h1:∀k,k<n→aW c (w.reverse++w') one k=1:=fun k hk=>by
  rw [aW_append,aW_congr h (fun k hk=>(he k hk).symm) (zAb hw) k hk,zCW h one hw];rfl
 have:=zKR h _ _ (zTI _) (lets_app (zAb hw) hw') h1;simpa using this
theorem pos_one (h:Car n c):∀(N:Nat) (w:List Nat),w.length≤N→Lets n w→(∀k,k<n→0≤aW c w one k)→∀k,k<n→aW c w one k=1
 | _,[],_,_,_=>fun k _=>rfl
 | 0,i::w,hN,_,_=>by simp at hN
 | N+1,i::w,hN,hw,h1=>by
  have hi:i<n:=hw i (by simp);have hw':Lets n w:=fun j hj=>hw j (by simp [hj]);have e:0≤aW c w one i-aW c w one i*c i i:=h1 i hi;rw [h.diag i hi] at e;have h0:=(image_step h hw' hi).1;obtain ⟨w',a1,a2,a3⟩:=(image_step h hw' hi).2 (by omega);have e2:aW c (i::w) one=aW c w' one:=a3;intro k hk;rw [e2];exact pos_one h N w' (by simp at hN; omega) a1 (fun k hk=>by rw [<-e2]; exact h1 k hk) k hk
end Cox
theorem Im.parity {c:List (List Int)} (hc:CartanP c) {v:List Int} {m m':Nat} (h:Im c v m) (h':Im c v m'):(m+m') % 2=0:=by
 obtain ⟨_,w,hw,rfl,hn⟩:=h;obtain ⟨_,w',hw',rfl,hn'⟩:=h';exact Cox.parity hc.car hw hw' (fun k hk=>by rw [<-hn k hk,<-hn' k hk])
theorem zCU {v v':List Int} {n:Nat} (h:v.length=n) (h':v'.length=n) (he:∀k,k<n→num v k=num v' k):v=v':=by
 refine List.ext_getElem (by omega) fun k h1 h2=>?_;have:=he k (by omega);simpa [num,h1,h2] using this
theorem Im.ones {c:List (List Int)} (hc:CartanP c) {v:List Int} {m:Nat} (h:Im c v m) (e:zAJ v=none):v=List.replicate c.length 1:=by
 obtain ⟨hl,w,hw,_,hn⟩:=h;refine zCU hl (by simp) fun k hk=>?_;rw [hn k hk];have:=Cox.pos_one hc.car _ w (zTI _) hw (fun k hk=>by
  rw [<-hn k hk];have hk':k<v.length:=by omega
  have:num v k=v[k]:=by simp [num,hk']
  rw [this];exact zDr.1 e _ (List.getElem_mem _)) k hk
 rw [this];simp [num,hk]
theorem Im.turn_two {c:List (List Int)} (hc:CartanP c) {v:List Int} {m:Nat} (h:Im c v m) (hm:m+1≤30) {i:Nat} (hi:i<c.length):refl c i (refl c i v)=v:=by
 have h2:=h.step hc (by omega) hi;obtain ⟨hl,w,hw,hwl,hn⟩:=h;have hlr:(refl c i v).length=c.length:=by rw [zA5,hl]
 have hw2:Cox.Lets c.length (i::w):=fun j hj=>by
  rcases List.mem_cons.1 hj with rfl | hj
  ·exact hi
  ·exact hw j hj
 have hn2:∀k,k<c.length→num (refl c i v) k=Cox.aW (ent c) (i::w) Cox.one k:=fun k hk=>zBS hc hl hw (by omega) hn hi hk;refine zCU (n:=c.length) (by rw [zA5,zA5,hl]) hl fun k hk=>?_;rw [zBS hc hlr hw2 (by simp; omega) hn2 hi hk,hn k hk];show Cox.sW (ent c) i (Cox.sW (ent c) i (Cox.aW (ent c) w Cox.one)) k=_;rw [Cox.sW_two hc.car hi]
theorem zBQ {c:List (List Int)} (hc:CartanP c):∀(m:Nat) {v:List Int},Im c v m→m≤29→zAF c (nf c 30 v)=v
 | m,v,h,hm=>by
  cases e:zAJ v with
  | none=>rw [zC6 e,h.ones hc e]; rfl
  | some i =>
   obtain ⟨m',rfl,h1,h2⟩:=zCC hc h (by omega) e;have ih:=zBQ hc m' h1 (by omega);have hi:i<c.length:=by have:=zB1 e; rw [h.len] at this; exact this
   rw [h2];show refl c (i:Int).toNat (zAF c (nf c 30 (refl c i v)))=v;rw [ih];exact h.turn_two hc (by omega) hi
theorem zLb {c:List (List Int)} (hc:CartanP c) {m:Nat} {v:List Int} (h:Im c v m) (hm:m≤29):Im c v (nf c 30 v).length:=by
 have hD:=zDy hc;have h1:=zFW hD m ⟨h,by omega⟩;have h2:=zE0 hD m ⟨h,by omega⟩;have:=zAa hc h1 (by omega);rwa [zBQ hc m h hm] at this
theorem zM1 {c:List (List Int)} (hc:CartanP c) {x:List Int} {i:Nat} (hx:Lets c.length x) (hi:i<c.length) (hl:x.length≤28):(zAD c (x++[(i:Int)])).length≤x.length+1∧(zAD c (x++[(i:Int)])).length≠x.length:=by
 have hle:Lets c.length (x++[(i:Int)]):=fun y hy=>by
  rcases List.mem_append.1 hy with h | h
  ·exact hx y h
  ·simp at h; omega
 have h1:=zAa hc hle (by simp; omega);have h2:=zLb hc h1 (by simp; omega);have h3:=h1.parity hc h2;have h4:=zCP hc hle (by simp; omega);simp at h3 h4;unfold zAD at *;omega
theorem zLd {c:List (List Int)} (hc:CartanP c) {x:List Int} (hx:Lets c.length x) (hl:x.length≤30):Lets c.length (zAD c x):=zFW (zDy hc) x.length ⟨zAa hc hx hl,hl⟩
def zFV (c:List (List Int)):List Int:=nf c 30 (List.replicate c.length (-1))
def zKE (c:List (List Int)):Bool:=decide (zAF c (zFV c)=List.replicate c.length (-1)) && (decide ((zFV c).length≤24) && (zFV c).all fun x=>decide (0≤x∧x<c.length))
theorem zOs:(Fin.L1++Fin.L2++Fin.L3++Fin.L4).all zKE=true:=by decide +kernel
theorem FinP.long {c:List (List Int)} (h:FinP c):Im c (List.replicate c.length (-1)) (zFV c).length∧(zFV c).length≤24:=by
 have:=h.all zOs;unfold zKE at this;simp only [Bool.and_eq_true,decide_eq_true_eq,List.all_eq_true] at this;obtain ⟨h1,h2,h3⟩:=this;have:=zAa h.cart (w:=zFV c) (fun x hx=>h3 x hx) (by omega);rw [h1] at this;exact ⟨this,h2⟩
end Go.Proofs.YtlgcdacpjcnjgaaGreatDoor
namespace Go.Proofs.YtlgcdacpjcnjgaaGreatDoor.Cox
section
variable {n:Nat} {c:Nat→Nat→Int}
theorem eqv_rev (h:Car n c) {a b:List Nat} (ha:Lets n a) (hb:Lets n b) (e:Eqv n c a b) (m:Nat→Int):aW c a.reverse m=aW c b.reverse m:=by
 have b1:=zFQ h m hb;have b2:=zCW h (aW c b.reverse m) ha;rw [e.m,b1] at b2;exact b2
theorem sW_self (h:Car n c) {i:Nat} (hi:i<n) (m:Nat→Int):sW c i m i = -(m i):=by
 simp only [sW,h.diag i hi]; omega
end
end Go.Proofs.YtlgcdacpjcnjgaaGreatDoor.Cox
namespace Go.Proofs.YtlgcdacpjcnjgaaGreatDoor
open Go.RowKit
set_option maxRecDepth 20000
theorem zJA {α:Type} (a:α):[a].Nodup:=by simp
def actN (c:List (List Int)):List Nat→List Int→List Int
 | [],v=>v
 | i::w,v=>refl c i (actN c w v)
theorem zIM (c:List (List Int)) (v:List Int) (w':List Nat):∀w,actN c (w++w') v=actN c w (actN c w' v)
 | []=>rfl
 | i::w=>by simp only [List.cons_append,actN,zIM c v w' w]
section
variable {c T:List (List Int)}
theorem zGt (hT:Cor c T) (hc:CartanP c) {v:List Int} (h:Wt c T v):∀{w:List Nat},Cox.Lets c.length w→Wt c T (actN c w v)∧∀k,k<c.length→num (actN c w v) k=Cox.aW (ent c) w (num v) k
 | [],_=>⟨h,fun _ _=>rfl⟩
 | i::w,hw=>by
  have hi:i<c.length:=hw i (List.mem_cons_self ..);obtain ⟨h1,h2⟩:=zGt hT hc h (w:=w) (fun j hj=>hw j (List.mem_cons_of_mem _ hj));refine ⟨h1.step hT hc hi,fun k hk=>?_⟩;show num (refl c i (actN c w v)) k=Cox.sW (ent c) i (Cox.aW (ent c) w (num v)) k;rw [h1.exact hT hc hi hk];simp only [Cox.sW,h2 i hi,h2 k hk]
theorem zSr (hT:Cor c T) (hc:CartanP c) {v:List Int} (h:Wt c T v) {i:Nat} (hi:i<c.length):refl c i (refl c i v)=v:=by
 have h2:=h.step hT hc hi;refine zCU (n:=c.length) (by rw [zA5,zA5,h.len]) h.len fun k hk=>?_;rw [h2.exact hT hc hi hk];have e:∀j,j<c.length→num (refl c i v) j=Cox.sW (ent c) i (num v) j:=fun j hj=>h.exact hT hc hi hj;have:=congrFun (Cox.sW_two hc.car hi (num v)) k;rw [<-this];simp only [Cox.sW,e i hi,e k hk]
def Rch (c:List (List Int)) (v x:List Int):Prop:=∃w,Cox.Lets c.length w∧x=actN c w v
theorem Rch.refl (c:List (List Int)) (v:List Int):Rch c v v:=⟨[],fun _ h=>by simp at h,rfl⟩
theorem Rch.step {v x:List Int} (h:Rch c v x) {i:Nat} (hi:i<c.length):Rch c v (Proofs.YtlgcdacpjcnjgaaGreatDoor.refl c i x):=by
 obtain ⟨w,hw,rfl⟩:=h;exact ⟨i::w,fun j hj=>by
  rcases List.mem_cons.1 hj with rfl | hj
  ·exact hi
  ·exact hw j hj,rfl⟩
theorem Rch.wt (hT:Cor c T) (hc:CartanP c) {v x:List Int} (h:Wt c T v) (hx:Rch c v x):Wt c T x:=by
 obtain ⟨w,hw,rfl⟩:=hx;exact (zGt hT hc h hw).1
theorem Rch.trans {v x y:List Int} (h:Rch c v x) (k:Rch c x y):Rch c v y:=by
 obtain ⟨w,hw,rfl⟩:=h;obtain ⟨w',hw',rfl⟩:=k;exact ⟨w'++w,Cox.lets_app hw' hw,(zIM c v w w').symm⟩
theorem zJN (hT:Cor c T) (hc:CartanP c) {v:List Int} (h:Wt c T v):∀{w:List Nat},Cox.Lets c.length w→Rch c (actN c w v) v
 | [],_=>Rch.refl c v
 | i::w,hw=>by
  have hi:i<c.length:=hw i (List.mem_cons_self ..);have hw':Cox.Lets c.length w:=fun j hj=>hw j (List.mem_cons_of_mem _ hj);have h1:=(zGt hT hc h hw').1;have h2:Rch c (Proofs.YtlgcdacpjcnjgaaGreatDoor.refl c i (actN c w v)) (actN c w v):=by
   have:=(Rch.refl c (Proofs.YtlgcdacpjcnjgaaGreatDoor.refl c i (actN c w v))).step hi;rwa [zSr hT hc h1 hi] at this
  exact h2.trans (zJN hT hc h hw')
theorem Rch.symm (hT:Cor c T) (hc:CartanP c) {v x:List Int} (h:Wt c T v) (hx:Rch c v x):Rch c x v:=by
 obtain ⟨w,hw,rfl⟩:=hx;exact zJN hT hc h hw
end
section
variable {c T:List (List Int)}
def zCc (c:List (List Int)) (u:List Int) (out:List (List Int)) (i:Nat):List (List Int):=if refl c i u∈out then out else out++[refl c i u]
def oRow (c:List (List Int)) (u:List Int) (out:List (List Int)):List (List Int):=(List.range c.length).foldl (zCc c u) out
structure OOk (c:List (List Int)) (v:List Int) (k:Nat) (out:List (List Int)):Prop where
 nd:out.Nodup
 rch:∀x∈out,Rch c v x
 self:v∈out
 done:∀(j:Nat) (u:List Int),j<k→out[j]? = some u→∀i,i<c.length→refl c i u∈out
theorem zM6 (c:List (List Int)) (u:List Int) (out:List (List Int)) (i:Nat):∃l,zCc c u out i=out++l∧l.length≤1:=by
 unfold zCc;split
 ·exact ⟨[],by simp,by simp⟩
 ·exact ⟨_,rfl,by simp⟩
theorem zHo (c:List (List Int)) (u:List Int):∀(L:List Nat) (out:List (List Int)),∃l,L.foldl (zCc c u) out=out++l∧l.length≤L.length
 | [],out=>⟨[],by simp,by simp⟩
 | i::L,out=>by
  obtain ⟨l1,h1,k1⟩:=zM6 c u out i;obtain ⟨l2,h2,k2⟩:=zHo c u L (zCc c u out i);exact ⟨l1++l2,by rw [List.foldl_cons,h2,h1,List.append_assoc],by simp; omega⟩
theorem zPH (c:List (List Int)) (u:List Int) (out:List (List Int)):∃l,oRow c u out=out++l∧l.length≤c.length:=by
 obtain ⟨l,h,k⟩:=zHo c u (List.range c.length) out;exact ⟨l,h,by simpa using k⟩
theorem zMm {u x:List Int} {out:List (List Int)} {i:Nat}:x∈zCc c u out i↔x∈out∨x=refl c i u:=by
 unfold zCc;split
 ·rename_i h
  exact ⟨.inl,fun h'=>by rcases h' with h' | rfl; exact h'; exact h⟩
 ·simp
theorem zC5 {u x:List Int}:∀{L:List Nat} {out:List (List Int)},x∈L.foldl (zCc c u) out↔x∈out∨∃i∈L,x=refl c i u
 | [],out=>by simp
 | j::L,out=>by
  rw [List.foldl_cons,zC5,zMm];constructor
  ·rintro ((h | h) | ⟨i,hi,h⟩)
   ·exact .inl h
   ·exact .inr ⟨j,List.mem_cons_self ..,h⟩
   ·exact .inr ⟨i,List.mem_cons_of_mem _ hi,h⟩
  ·rintro (h | ⟨i,hi,h⟩)
   ·exact .inl (.inl h)
   ·rcases List.mem_cons.1 hi with rfl | hi
    ·exact .inl (.inr h)
    ·exact .inr ⟨i,hi,h⟩
theorem zO7 {u:List Int} {out:List (List Int)} {i:Nat} (h:out.Nodup):(zCc c u out i).Nodup:=by
 unfold zCc;split
 ·exact h
 ·rename_i hn
  rw [List.nodup_append];exact ⟨h,zJA _,fun a ha b hb=>by rw [List.mem_singleton] at hb; subst hb; exact fun e=>hn (e ▸ ha)⟩
theorem zI9 {u:List Int}:∀{L:List Nat} {out:List (List Int)},out.Nodup→(L.foldl (zCc c u) out).Nodup
 | [],_,h=>h
 | _::L,_,h=>zI9 (L:=L) (zO7 h)
theorem OOk.row {v:List Int} {k:Nat} {out:List (List Int)} {u:List Int} (h:OOk c v k out) (hu:out[k]? = some u):OOk c v (k+1) (oRow c u out):=by
 obtain ⟨l,hl,_⟩:=zPH c u out;have hkl:k<out.length:=(zTG hu).1;refine ⟨zI9 h.nd,fun x hx=>?_,zC5.2 (.inl h.self),fun j y hj hy i hi=>?_⟩
 ·rcases zC5.1 hx with hx | ⟨i,hi,rfl⟩
  ·exact h.rch x hx
  ·exact (h.rch u (zTF hu)).step (List.mem_range.1 hi)
 ·rw [hl,List.getElem?_append_left (by omega)] at hy;rcases Nat.lt_or_ge j k with hjk | hjk
  ·exact zC5.2 (.inl (h.done j y hjk hy i hi))
  ·have:j=k:=by omega
   subst this;rw [hu] at hy;cases hy;exact zC5.2 (.inr ⟨i,List.mem_range.2 hi,rfl⟩)
theorem zGW {α:Type} [DecidableEq α]:∀{l m:List α},l.Nodup→(∀x∈l,x∈m)→l.length≤m.length
 | [],m,_,_=>Nat.zero_le _
 | a::l,m,h,hs=>by
  have h1:=List.nodup_cons.1 h;have ha:=hs a (List.mem_cons_self ..);have h2:=zGW (m:=m.erase a) h1.2 (fun x hx=>(List.mem_erase_of_ne (fun (e:x=a)=>h1.1 (by rw [<-e]; exact hx))).2 (hs x (List.mem_cons_of_mem _ hx)));rw [List.length_erase_of_mem ha] at h2;have:=List.length_pos_of_mem ha;simp only [List.length_cons];omega
end
end Go.Proofs.YtlgcdacpjcnjgaaGreatDoor
namespace Go.Proofs.YtlgcdacpjcnjgaaGreatDoor
open Go.RowKit
set_option maxRecDepth 20000
namespace Cox
variable {n:Nat} {c:Nat→Nat→Int}
theorem zEq (h:Car n c) {s:Nat} (hs:s<n):∀{w:List Nat},Lets n w→NegA n c w s→∃w',Lets n w'∧w'.length+1=w.length∧w'.Sublist w∧Eqv n c (w++[s]) w'
 | [],_,hn=>by
  have:=hn.1 s hs;simp [aR,e] at this
 | k::y,hw,hn=>by
  have hk:k<n:=hw k (by simp);have hy:Lets n y:=fun j hj=>hw j (by simp [hj]);rcases coh h hy hs with hp | hn'
  ·have hr:=zDG hp.1 hn.1 (fun j hj=>by rw [zEj hj _ hy,zIG hs hj]);have hx:=zDG (c:=tr c) hp.2 hn.2 (fun j hj=>by rw [zEj hj _ hy,zIG hs hj]);have hb:=zDw h (e s) (e s) hy;rw [hr,hx,zHM,zGD hk hk,zGD hs hs,h.diag k hk,h.diag s hs] at hb;have p1:=hp.1 k hk;generalize aR n c y (e s) k=a at *;generalize aR n (tr c) y (e s) k=b at *;have hab:b*a=1:=by omega
   have ha:a=1:=Int.eq_one_of_mul_eq_one_left p1 hab;have hb1:b=1:=by rw [ha] at hab; omega
   subst ha; subst hb1;have h1:aR n c y (e s)=e k:=by rw [hr]; funext j; simp
   have h2:aR n (tr c) y (e s)=e k:=by rw [hx]; funext j; simp
   refine ⟨y,hy,by simp,List.sublist_cons_self _ _,?_⟩;have h3:=comm h hy hs hk h1 h2;have h4:Eqv n c (k::(y++[s])) ([k]++(k::y)):=(Eqv.refl [k]).app h3;have h5:Eqv n c ([k,k]++y) ([]++y):=(Eqv.two h hk).app (Eqv.refl y);exact h4.trans h5
  ·obtain ⟨w',h1,h2,h3,h4⟩:=zEq h hs hy hn';refine ⟨k::w',fun j hj=>?_,by simp; omega,List.Sublist.cons_cons k h3,(Eqv.refl [k]).app h4⟩;rcases List.mem_cons.1 hj with rfl | hj
   ·exact hk
   ·exact h1 j hj
def Part (n:Nat) (c:Nat→Nat→Int) (m:Nat→Int) (w:List Nat):Prop:=∃x,x.Sublist w∧∀k,k<n→aW c x one k=m k
theorem part_lets {w x:List Nat} (hw:Lets n w) (hx:x.Sublist w):Lets n x:=fun j hj=>hw j (hx.subset hj)
end Cox
end Go.Proofs.YtlgcdacpjcnjgaaGreatDoor
