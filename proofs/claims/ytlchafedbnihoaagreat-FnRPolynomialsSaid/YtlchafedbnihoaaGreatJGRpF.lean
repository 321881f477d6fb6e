/- Lengths of elements, by the program and by the reference. Condition: sizes up to 2^24. -/
import Derived.Test.YtlchafedbnihoaaGreatJGKeys
import Derived.Test.YtlchafedbnihoaaGreatJGRpS
import Derived.Carry
namespace Go.Proofs.YtlchafedbnihoaaGreat
open Go.RowKit
set_option maxRecDepth 20000
set_option maxHeartbeats 8000000
theorem zE7 {S S':Nat→Prop} {u v:Value} {c:List (List Int)} {l:List Int} {w:World} (h:RII S w u c) (h':RI S' w v l) (hc:CartanP c) (hle:Lets c.length l) (hl':l.length≤30) :
  Calls Tryz.prog 33 #[u,v] w fun e w'=>e=.returned (.int .i64 (zAB c l).length)∧Below w.heap.size w w':=by
 go_enter Tryz.func33,Tryz.ntmps33
 go_wp2_with fail
 refine (zCZ h h' hc hle hl').mono ?_;rintro e w1 ⟨r1,rfl,f1,b1⟩;obtain ⟨a1,c1,rfl⟩:=f1.reads.form;go_wp2_with fail
 go_ret
 exact ⟨rfl,b1⟩
theorem zBd {S S':Nat→Prop} {u v:Value} {c:List (List Int)} {l:List Int} {w:World} (h:RII S w u c) (h':RI S' w v l) (hw:isWd c l=true) (hl:total c≤16777216) (hl':l.length≤16777216) :
  Calls Tryz.prog 9 #[u,v] w fun e w'=>e=.returned (.int .i64 (zAB c l).length)∧Below w.heap.size w w':=by
 have HN:Hid (zBB c l=zAB c l):=zQY (by unfold zBB; rw [if_pos hw]);have HW:=zQY hw;clear hw;go_enter Tryz.func9,Tryz.ntmps9
 go_wp2_with fail
 refine (zBZ h h' hl hl').mono ?_;rintro e w1 ⟨r1,rfl,f1,b1⟩;rw [HN.out] at f1;rw [HW.out];obtain ⟨a1,c1,rfl⟩:=f1.reads.form;go_wp2_with fail
 go_ret
 exact ⟨rfl,b1⟩
def rpOk (c:List (List Int)) (u v:List Int):Bool:=(isWd c u && isWd c v) && decide ((zAB c v).length≤10)
def rp (c:List (List Int)) (u v:List Int):List Int:=if rpOk c u v then rI c (zAC c u) (zAB c v) else []
theorem zFa (c:List (List Int)) (u v:List Int):(rp c u v).length≤11:=by
 unfold rp;cases h:rpOk c u v
 ·simp
 ·have:=zDl c (zAB c v) (zAC c u);unfold rpOk at h;simp only [Bool.and_eq_true,decide_eq_true_eq] at h;simp;omega
theorem zEo {c:List (List Int)} {x:Value} {w:World} {cl:List (List Int)} {S:Nat→Prop} (h:RII S w x cl) :
  Calls Tryz.prog 35 #[x] w fun e w'=>∃mb,e=.returned (.agg #[x,.map (some mb)])∧w.heap.size≤mb∧zCO c mb 0 w'∧Below w.heap.size w w':=by
 obtain ⟨a,cap,rfl⟩:=h.form;have hmm:=@run_makeMap Tryz.prog;go_enter Tryz.func35,Tryz.ntmps35
 go_wp2_with fail
 have hM:=Memo.made (A:=AIm c) (F:=fun a b=>rI c a (nf c 30 b)) (n:=c.length) (w.alloc (Obj.cells #[Value.slice a cl.length cap,Value.map (some (w.heap.size+1))] 55));rw [World.size_alloc] at hM;have x0:((w.alloc (Obj.cells #[Value.slice a cl.length cap,Value.map (some (w.heap.size+1))] 55)).alloc (Obj.map #[] 0)).cell? ⟨w.heap.size,0,none⟩=some (Value.slice a cl.length cap):=zAc (by go_simp) _;have x1:((w.alloc (Obj.cells #[Value.slice a cl.length cap,Value.map (some (w.heap.size+1))] 55)).alloc (Obj.map #[] 0)).cell? ⟨w.heap.size,1,none⟩=some (.map (some (w.heap.size+1))):=zAc (by go_simp) _;have hb:Below w.heap.size w ((w.alloc (Obj.cells #[Value.slice a cl.length cap,Value.map (some (w.heap.size+1))] 55)).alloc (Obj.map #[] 0)):=((Below.refl _ _).alloc (zQd _) _).alloc (by simp) _
 generalize (w.alloc (Obj.cells #[Value.slice a cl.length cap,Value.map (some (w.heap.size+1))] 55)).alloc (Obj.map #[] 0)=w4 at *;try simp only [Exit.inBlock,Exit.then]
 refine bodyPost_ret (v:=.agg #[Value.slice a cl.length cap,Value.map (some (w.heap.size+1))]) (by simp [results,Tryz.results35,go_sem,x0,x1]) rfl ?_;exact ⟨_,rfl,Nat.le_succ _,hM,hb⟩
theorem zCC {S S1 S2:Nat→Prop} {x y z:Value} {c:List (List Int)} {l l':List Int} {w:World} (h:RII S w x c) (h1:RI S1 w y l) (h2:RI S2 w z l') (hl:total c≤16777216) (hl1:l.length≤16777216) (hl2:l'.length≤16777216) :
  Calls Tryz.prog 7 #[x,y,z] w fun e w'=>∃r,e=.returned (.tuple #[r,.bool (rpOk c l l')])∧FI (New w w') w' r (rp c l l')∧Below w.heap.size w w':=by
 have R1:Hid (rpOk c l l'=((isWd c l && isWd c l') && decide ((zAB c l').length≤10))):=zQY rfl;have R2:Hid (rp c l l'=if rpOk c l l' then rI c (zAC c l) (zAB c l') else []):=zQY rfl;have HP:=zQY (@zAT c l);have HP':=zQY (@zAT c l');have HR:Hid (isWd c l=true→isWd c l'=true→(zAB c l').length≤10→rS c (zAC c l) (zAB c l')=rI c (zAC c l) (zAB c l')):=zQY (fun e1 e2 e3=>by
  obtain ⟨p1,p2,p3⟩:=zAT e1;obtain ⟨q1,q2,q3⟩:=zAT e2;have hc:=zAY.1 p1;exact zKg hc _ (zAV hc p3 (by omega)) (by omega) (zC8 hc _ (zAV hc q3 (by omega)) (by omega)))
 generalize rp c l l'=res at *;generalize rpOk c l l'=ok at *;go_enter Tryz.func7,Tryz.ntmps7
 go_wp2_with fail
 refine (zCz h h1 hl hl1).mono ?_;rintro e w1 ⟨rfl,hw1⟩;have b1:=zAO hw1;clear hw1;cases e1:isWd c l
 ·have E0:Hid (ok=false):=zQY (by rw [R1.out,e1]; rfl);go_wp2_with fail
  obtain ⟨f1,b1⟩:=zAR (w:=w1) b1 rfl;go_ret2
  rw [R2.out,E0.out];exact ⟨_,rfl,f1,b1⟩
 ·have E1:=zQY e1;clear e1;go_wp2_with fail
  refine (zCz (h.below b1) (h2.below b1) hl hl2).mono ?_;rintro e w2 ⟨rfl,hw2⟩;have b2:=zAA.step b1 (zAO hw2);clear hw2;cases e2:isWd c l'
  ·have E0:Hid (ok=false):=zQY (by rw [R1.out,e2,Bool.and_false]; rfl);go_wp2_with fail
   obtain ⟨f1,b1⟩:=zAR (w:=w2) b2 rfl;go_ret2
   rw [R2.out,E0.out];exact ⟨_,rfl,f1,b1⟩
  ·have E2:=zQY e2;clear e2;go_wp2_with fail
   refine (zBd (h.below b2) (h2.below b2) E2.out hl hl2).mono ?_;rintro e w3 ⟨rfl,b3⟩;have b3:=zAA.step b2 b3;by_cases e3:(zAB c l').length≤10
   ·have E0:Hid (ok=true):=zQY (by rw [R1.out,E1.out,E2.out,decide_eq_true e3]; rfl);have E3:=zQY e3;have i1:¬(10:Int)<((zAB c l').length:Int):=by omega
    clear e3;go_wp2_with fail
    refine (zBK (h.below b3) (h1.below b3) (zAY.1 (HP.out E1.out).1) (HP.out E1.out).2.2 hl (by have:=(HP.out E1.out).2.1; omega)).mono ?_;rintro e w4 ⟨r4,rfl,f4,b4⟩;have b04:=zAA.step b3 b4;go_wp2_with fail
    refine (zBK (h.below b04) (h2.below b04) (zAY.1 (HP.out E1.out).1) (HP'.out E2.out).2.2 hl (by have:=(HP'.out E2.out).2.1; omega)).mono ?_;rintro e w5 ⟨r5,rfl,f5,b5⟩;have b05:=zAA.step b04 b5;have hc:=zQY (zAY.1 (HP.out E1.out).1);have hI:=zQY (zAV hc.out (HP.out E1.out).2.2 (by have:=(HP.out E1.out).2.1; omega));have f4':RI (New w3 w4) w5 r4 (nf c 30 (zAC c l)):=f4.reads.below b5;go_wp2_with fail
    refine (zL3 hc.out hl (zAB c l') (h.below b05) f4' f5.reads hI.out (by have:=E3.out; have:=(HP.out E1.out).2.1; omega) (zC8 hc.out _ (zAV hc.out (HP'.out E2.out).2.2 (by have:=(HP'.out E2.out).2.1; omega)) (by have:=(HP'.out E2.out).2.1; omega)) (by have:=E3.out; omega)).mono ?_;rintro e w6 ⟨r6,rfl,f6,b6⟩;have b06:=zAA.step b05 b6;go_wp2_with fail
    go_ret2
    rw [R2.out,E0.out,if_pos rfl,<-HR.out E1.out E2.out E3.out];exact ⟨_,rfl,f6.mono (fun b hb=>⟨Nat.le_trans b05.size hb.1,hb.2⟩),b06⟩
   ·have E0:Hid (ok=false):=zQY (by rw [R1.out,decide_eq_false e3,Bool.and_false]);have i1:(10:Int)<((zAB c l').length:Int):=by omega
    clear e3;go_wp2_with fail
    obtain ⟨f1,b1⟩:=zAR (w:=w3) b3 rfl;go_ret2
    rw [R2.out,E0.out];exact ⟨_,rfl,f1,b1⟩
theorem zBP {S S1 S2:Nat→Prop} {x y z:Value} {c:List (List Int)} {l l':List Int} {w:World} (h:RII S w x c) (h1:RI S1 w y l) (h2:RI S2 w z l') (hl:total c≤16777216) (hl1:l.length≤16777216) (hl2:l'.length≤16777216) :
  Calls Tryz.prog 6 #[x,y,z] w fun e w'=>∃r,e=.returned (.tuple #[r,.bool (rpOk c l l')])∧FI (New w w') w' r (rp c l l')∧Below w.heap.size w w':=by
 have R1:Hid (rpOk c l l'=((isWd c l && isWd c l') && decide ((zAB c l').length≤10))):=zQY rfl;have R2:Hid (rp c l l'=if rpOk c l l' then rI c (zAC c l) (zAB c l') else []):=zQY rfl;have HP:=zQY (@zAT c l);have HP':=zQY (@zAT c l');generalize rp c l l'=res at *;generalize rpOk c l l'=ok at *;go_enter Tryz.func6,Tryz.ntmps6
 go_wp2_with fail
 refine (zDW h h1 hl hl1).mono ?_;rintro e w1 ⟨rfl,hw1⟩;have b1:=zAO hw1;clear hw1;cases e1:isWd c l
 ·have E0:Hid (ok=false):=zQY (by rw [R1.out,e1]; rfl);go_wp2_with fail
  obtain ⟨f1,b1⟩:=zAR (w:=w1) b1 rfl;go_ret2
  rw [R2.out,E0.out];exact ⟨_,rfl,f1,b1⟩
 ·have E1:=zQY e1;clear e1;go_wp2_with fail
  refine (zDW (h.below b1) (h2.below b1) hl hl2).mono ?_;rintro e w2 ⟨rfl,hw2⟩;have b2:=zAA.step b1 (zAO hw2);clear hw2;cases e2:isWd c l'
  ·have E0:Hid (ok=false):=zQY (by rw [R1.out,e2,Bool.and_false]; rfl);go_wp2_with fail
   obtain ⟨f1,b1⟩:=zAR (w:=w2) b2 rfl;go_ret2
   rw [R2.out,E0.out];exact ⟨_,rfl,f1,b1⟩
  ·have E2:=zQY e2;clear e2;go_wp2_with fail
   refine (zE7 (h.below b2) (h2.below b2) (zAY.1 (HP.out E1.out).1) (HP'.out E2.out).2.2 (by have:=(HP'.out E2.out).2.1; omega)).mono ?_;rintro e w3 ⟨rfl,b3⟩;have b3:=zAA.step b2 b3;by_cases e3:(zAB c l').length≤10
   ·have E0:Hid (ok=true):=zQY (by rw [R1.out,E1.out,E2.out,decide_eq_true e3]; rfl);have E3:=zQY e3;have i1:¬(10:Int)<((zAB c l').length:Int):=by omega
    clear e3;go_wp2_with fail
    have hc:=zQY (zAY.1 (HP.out E1.out).1);refine (zEo (c:=c) (h.below b3)).mono ?_;rintro e w4 ⟨mb,rfl,hmb,M4,b4⟩;have b04:=zAA.step b3 b4;have hlt4:=M4.lt;have hmb0:w.heap.size≤mb:=Nat.le_trans b3.size hmb;go_wp2_with fail
    refine (zDJ (h.below b04) (h1.below b04) hc.out (HP.out E1.out).2.2 hl1).mono ?_;rintro e w5 ⟨r5,rfl,f5,b5⟩;have b05:=zAA.step b04 b5;go_wp2_with fail
    refine (zDJ (h.below b05) (h2.below b05) hc.out (HP'.out E2.out).2.2 hl2).mono ?_;rintro e w6 ⟨r6,rfl,f6,b6⟩;have b06:=zAA.step b05 b6;have hI:=zQY (zAV hc.out (HP.out E1.out).2.2 (by have:=(HP.out E1.out).2.1; omega));have hI':=zQY (zAV hc.out (HP'.out E2.out).2.2 (by have:=(HP'.out E2.out).2.1; omega));have u6:RI (Nm mb) w6 r5 (zAC c l):=RL.mono (f5.reads.below b6) (fun b hb e=>by have:=hb.1; omega) (fun _ _ h=>h);have v6:RI (Nm mb) w6 r6 (zAC c l'):=Nm.of f6 (by have:=b5.size; omega);have c6:RII (Nm mb) w6 x c:=RL.mono (h.old.below b06) (fun b hb e=>by have:=hb.2; omega) (fun _ _ h=>RL.mono h (fun b hb e=>by have:=hb.2; omega) (fun _ _ h=>h));have M6:zCO c mb 0 w6:=(M4.below b5).below b6;go_wp2_with fail
    refine (zF7 hc.out (zAB c l').length c6 u6 v6 hI.out hI'.out rfl (by have:=E3.out; have:=(HP.out E1.out).2.1; omega) (by have:=(HP'.out E2.out).2.1; omega) M6 (by have:=Nat.pow_le_pow_right (n:=2) (by decide) (show (zAB c l').length+1≤11 by have:=E3.out; omega); omega)).mono ?_;rintro e w7 ⟨r7,k7,rfl,v7,g7,M7,_⟩;have b07:Below w.heap.size w w7:=b06.grown g7 b06.size (fun k hk=>by cases hk; exact hmb0);have L7:=zQY (zDl c (zAB c l') (zAC c l));have v7:RI (Nm mb) w7 r7 (rI c (zAC c l) (zAB c l')):=v7;go_wp2_with fail
    refine (zEs v7 (by have:=L7.out; have:=E3.out; omega)).mono ?_;rintro e w8 ⟨r8,rfl,f8,b8⟩;go_wp2_with fail
    go_ret2
    rw [R2.out,E0.out,if_pos rfl];exact ⟨_,rfl,f8.mono (fun b hb=>⟨Nat.le_trans b07.size hb.1,hb.2⟩),zAA.step b07 b8⟩
   ·have E0:Hid (ok=false):=zQY (by rw [R1.out,decide_eq_false e3,Bool.and_false]);have i1:(10:Int)<((zAB c l').length:Int):=by omega
    clear e3;go_wp2_with fail
    obtain ⟨f1,b1⟩:=zAR (w:=w3) b3 rfl;go_ret2
    rw [R2.out,E0.out];exact ⟨_,rfl,f1,b1⟩
def rich (c:List (List Int)) (u v:List Int) (q:Int):Int:=if rpOk c u v && inR q 2 9 then zAJ q (rp c u v) else -1
theorem zGz {S S1 S2:Nat→Prop} {x y z:Value} {c:List (List Int)} {l l':List Int} {w:World} {q:Int} (h:RII S w x c) (h1:RI S1 w y l) (h2:RI S2 w z l') (hl:total c≤16777216) (hl1:l.length≤16777216) (hl2:l'.length≤16777216) :
  Calls Tryz.prog 30 #[x,y,z,.int .i64 q] w fun e w'=>e=.returned (.int .i64 (rich c l l' q))∧Below w.heap.size w w':=by
 have HR:Hid (rich c l l' q=if rpOk c l l' && inR q 2 9 then zAJ q (rp c l l') else -1):=zQY rfl;have HL:=zQY (zFa c l l');generalize rich c l l' q=res at *;go_enter Tryz.func30,Tryz.ntmps30
 go_wp2_with fail
 refine (zCC h h1 h2 hl hl1 hl2).mono ?_;rintro e w1 ⟨r1,rfl,f1,b1⟩;cases e1:rpOk c l l'
 ·have HR2:Hid (res = -1):=zQY (by rw [HR.out,e1]; rfl);clear HR;go_wp2_with fail
  go_ret
  rw [HR2.out];exact ⟨rfl,b1⟩
 ·go_wp2_with fail
  refine (zEZ q 2 9 w1).mono ?_;rintro e w2 ⟨rfl,hw2⟩;have b2:=zAA.step b1 (zDS hw2);cases e2:inR q 2 9
  ·have HR2:Hid (res = -1):=zQY (by rw [HR.out,e1,e2]; rfl);clear HR;go_wp2_with fail
   go_ret
   rw [HR2.out];exact ⟨rfl,b2⟩
  ·have HR2:Hid (res=zAJ q (rp c l l')):=zQY (by rw [HR.out,e1,e2]; rfl);clear HR;have f2:=f1.reads.below (zDS hw2);go_wp2_with fail
   refine (zMe q f2 (by have:=HL.out; omega)).mono ?_;rintro e w3 ⟨rfl,hw3⟩;go_wp2_with fail
   go_ret
   rw [HR2.out];exact ⟨rfl,zAA.step b2 (zDS hw3)⟩
theorem zGy {S S1 S2:Nat→Prop} {x y z:Value} {c:List (List Int)} {l l':List Int} {w:World} {q:Int} (h:RII S w x c) (h1:RI S1 w y l) (h2:RI S2 w z l') (hl:total c≤16777216) (hl1:l.length≤16777216) (hl2:l'.length≤16777216) :
  Calls Tryz.prog 28 #[x,y,z,.int .i64 q] w fun e w'=>e=.returned (.int .i64 (rich c l l' q))∧Below w.heap.size w w':=by
 have HR:Hid (rich c l l' q=if rpOk c l l' && inR q 2 9 then zAJ q (rp c l l') else -1):=zQY rfl;have HL:=zQY (zFa c l l');generalize rich c l l' q=res at *;go_enter Tryz.func28,Tryz.ntmps28
 go_wp2_with fail
 refine (zBP h h1 h2 hl hl1 hl2).mono ?_;rintro e w1 ⟨r1,rfl,f1,b1⟩;cases e1:rpOk c l l'
 ·have HR2:Hid (res = -1):=zQY (by rw [HR.out,e1]; rfl);clear HR;go_wp2_with fail
  go_ret
  rw [HR2.out];exact ⟨rfl,b1⟩
 ·by_cases q2:q<2
  ·have HR2:Hid (res = -1):=zQY (by rw [HR.out,e1,zGO (by omega)]; rfl);clear HR;go_wp2_with fail
   go_ret
   rw [HR2.out];exact ⟨rfl,b1⟩
  ·by_cases q9:9<q
   ·have HR2:Hid (res = -1):=zQY (by rw [HR.out,e1,zGO (by omega)]; rfl);clear HR;go_wp2_with fail
    go_ret
    rw [HR2.out];exact ⟨rfl,b1⟩
   ·have HR2:Hid (res=zAJ q (rp c l l')):=zQY (by rw [HR.out,e1,zFU (by omega)]; rfl);clear HR;go_wp2_with fail
    refine (zMd q f1.reads (by have:=HL.out; omega)).mono ?_;rintro e w3 ⟨rfl,hw3⟩;go_wp2_with fail
    go_ret
    rw [HR2.out];exact ⟨rfl,zAA.step b1 (zDS hw3)⟩
end Go.Proofs.YtlchafedbnihoaaGreat
