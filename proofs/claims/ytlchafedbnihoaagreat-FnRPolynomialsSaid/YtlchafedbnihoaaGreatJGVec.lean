/- The dot action, by the program and by the reference. Condition: sizes up to 2^24. -/
import Derived.Test.YtlchafedbnihoaaGreatJGPoly
import Derived.Handy
namespace Go.Proofs.YtlchafedbnihoaaGreat
open Go.RowKit
set_option maxRecDepth 20000
set_option maxHeartbeats 8000000
theorem zPz {c:List (List Int)} (h:isC c=true):rho c=List.replicate c.length 1:=by unfold rho; rw [if_pos h]
def vec (l:List Int):Value:=.agg #[.int .i64 (num l 0),.int .i64 (num l 1),.int .i64 (num l 2),.int .i64 (num l 3)]
theorem zKl {l:List Int} (hl:l.length≤4):splice [Value.int .i64 0,.int .i64 0,.int .i64 0,.int .i64 0] 0 (l.map (Value.int .i64))=[.int .i64 (num l 0),.int .i64 (num l 1),.int .i64 (num l 2),.int .i64 (num l 3)]:=by
 rcases l with _ | ⟨a,_ | ⟨b,_ | ⟨c,_ | ⟨d,_ | ⟨e,l⟩⟩⟩⟩⟩ <;> simp [splice,num] at hl ⊢
theorem zFM {S:Nat→Prop} {v:Value} {l:List Int} {w:World} (h:RI S w v l) (hl:l.length≤4) :
  Calls Tryz.prog 70 #[v] w fun e w'=>e=.returned (vec l)∧Below w.heap.size w w':=by
 obtain ⟨a,cap,rfl⟩:=h.form;have HSP:=zQY (zKl hl);unfold vec;have HL:=zQY hl;go_enter Tryz.func70,Tryz.ntmps70
 have bw1:Below w.heap.size w ((w.alloc (Obj.cells #[Value.int IntKind.i64 0,Value.int IntKind.i64 0,Value.int IntKind.i64 0,Value.int IntKind.i64 0] 77)).alloc (Obj.cells #[Value.int IntKind.i64 0,Value.int IntKind.i64 0,Value.int IntKind.i64 0,Value.int IntKind.i64 0] 77)):=((Below.refl _ _).alloc (zQd _) _).alloc (by simp) _;go_wp2_with (refine wpList_copy_splice (P:=Tryz.prog) rfl _ _ 25 25 rfl 3 Tryz.underlying25 (by kernel_rfl) (some ⟨w.heap.size+1,0,none⟩) a 4 4 l.length cap rfl rfl (w.heap.size+1) 0 [.int .i64 0,.int .i64 0,.int .i64 0,.int .i64 0] 77 ?h0 (l.map (Value.int .i64)) ?hmin ?h1 ?hfit ?h2 (w.heap.size+1) _ (Below.refl _ _) (zQd _) ?h3)
 case h0 =>
  have:=heap_alloc_new (w.alloc (Obj.cells #[Value.int IntKind.i64 0,Value.int IntKind.i64 0,Value.int IntKind.i64 0,Value.int IntKind.i64 0] 77)) (Obj.cells #[Value.int IntKind.i64 0,Value.int IntKind.i64 0,Value.int IntKind.i64 0,Value.int IntKind.i64 0] 77);simpa using this
 case hmin=>have:=HL.out; rw [List.length_map]; exact (Nat.min_eq_left this).symm
 case hfit=>have:=HL.out; simp; omega
 case h1 =>
  intro hp;have h5:=h.below bw1;obtain ⟨a',cap',hv,_,hcase⟩:=h5;simp only [Value.slice.injEq] at hv;obtain ⟨rfl,_,rfl⟩:=hv;rcases hcase with h0 | ⟨b,off,ha,_,_,hc⟩
  ·subst h0; simp at hp
  ·refine ⟨_,ha,fun j v hj=>?_⟩;obtain ⟨r,h1,h2⟩:=hc j v hj;have hadd:(⟨b,off,none⟩:Addr).add j=⟨b,off+j,none⟩:=by unfold Addr.add; split <;> simp_all
   rw [hadd,h1];exact congrArg some h2
 case h2 =>
  intro v hv;first | (obtain ⟨x,_,rfl⟩:=List.mem_map.1 hv; rfl) | (obtain ⟨x,_,rfl⟩:=hv; rfl)
 case h3 =>
  intro w3 hg3 hb3;rw [HSP.out] at hg3;clear HSP HL;have b03:Below w.heap.size w w3:=bw1.trans (hb3.mono (Nat.le_succ _));have c0:w3.cell? ⟨w.heap.size+1,0,none⟩=some (.int .i64 (num l 0)):=by simp [World.cell?,hg3.out]
  have c1:w3.cell? ⟨w.heap.size+1,1,none⟩=some (.int .i64 (num l 1)):=by simp [World.cell?,hg3.out]
  have c2:w3.cell? ⟨w.heap.size+1,2,none⟩=some (.int .i64 (num l 2)):=by simp [World.cell?,hg3.out]
  have c3:w3.cell? ⟨w.heap.size+1,3,none⟩=some (.int .i64 (num l 3)):=by simp [World.cell?,hg3.out]
  have hs:=hb3.cell (p:=⟨w.heap.size,0,none⟩) (Nat.lt_succ_self _);have d0:w3.cell? ⟨w.heap.size,0,none⟩=some (.int .i64 0):=(hb3.cell (p:=⟨w.heap.size,0,none⟩) (Nat.lt_succ_self _)).trans (by go_simp);have d1:w3.cell? ⟨w.heap.size,1,none⟩=some (.int .i64 0):=(hb3.cell (p:=⟨w.heap.size,1,none⟩) (Nat.lt_succ_self _)).trans (by go_simp);have d2:w3.cell? ⟨w.heap.size,2,none⟩=some (.int .i64 0):=(hb3.cell (p:=⟨w.heap.size,2,none⟩) (Nat.lt_succ_self _)).trans (by go_simp);have d3:w3.cell? ⟨w.heap.size,3,none⟩=some (.int .i64 0):=(hb3.cell (p:=⟨w.heap.size,3,none⟩) (Nat.lt_succ_self _)).trans (by go_simp);have f0:w3.frozen? ⟨w.heap.size,0,none⟩=false:=(hb3.frozen (p:=⟨w.heap.size,0,none⟩) (Nat.lt_succ_self _)).trans (by go_simp)
  have f1:w3.frozen? ⟨w.heap.size,1,none⟩=false:=(hb3.frozen (p:=⟨w.heap.size,1,none⟩) (Nat.lt_succ_self _)).trans (by go_simp);have f2:w3.frozen? ⟨w.heap.size,2,none⟩=false:=(hb3.frozen (p:=⟨w.heap.size,2,none⟩) (Nat.lt_succ_self _)).trans (by go_simp);have f3:w3.frozen? ⟨w.heap.size,3,none⟩=false:=(hb3.frozen (p:=⟨w.heap.size,3,none⟩) (Nat.lt_succ_self _)).trans (by go_simp);clear hg3 hs hb3 bw1 h;generalize hN:w.heap.size=N at *;have HN:=zQY hN;clear hN;go_wp2_with fail
  have b4:Below N w ((((w3.setCell ⟨N,0,none⟩ (.int .i64 (num l 0))).setCell ⟨N,1,none⟩ (.int .i64 (num l 1))).setCell ⟨N,2,none⟩ (.int .i64 (num l 2))).setCell ⟨N,3,none⟩ (.int .i64 (num l 3))) :=
   (((b03.setCell (zQd _) _).setCell (zQd _) _).setCell (zQd _) _).setCell (zQd _) _
  have e0:((((w3.setCell ⟨N,0,none⟩ (.int .i64 (num l 0))).setCell ⟨N,1,none⟩ (.int .i64 (num l 1))).setCell ⟨N,2,none⟩ (.int .i64 (num l 2))).setCell ⟨N,3,none⟩ (.int .i64 (num l 3))).cell? ⟨N,0,none⟩=some (.int .i64 (num l 0)):=by
   rw [zAf _ _ _ _ _ (by decide),zAf _ _ _ _ _ (by decide),zAf _ _ _ _ _ (by decide),World.cell?_setCell_same' _ _ _ (by rw [d0]; rfl)]
  have e1:((((w3.setCell ⟨N,0,none⟩ (.int .i64 (num l 0))).setCell ⟨N,1,none⟩ (.int .i64 (num l 1))).setCell ⟨N,2,none⟩ (.int .i64 (num l 2))).setCell ⟨N,3,none⟩ (.int .i64 (num l 3))).cell? ⟨N,1,none⟩=some (.int .i64 (num l 1)):=by
   rw [zAf _ _ _ _ _ (by decide),zAf _ _ _ _ _ (by decide),World.cell?_setCell_same' _ _ _ (by rw [zAf _ _ _ _ _ (by decide),d1]; rfl)]
  have e2:((((w3.setCell ⟨N,0,none⟩ (.int .i64 (num l 0))).setCell ⟨N,1,none⟩ (.int .i64 (num l 1))).setCell ⟨N,2,none⟩ (.int .i64 (num l 2))).setCell ⟨N,3,none⟩ (.int .i64 (num l 3))).cell? ⟨N,2,none⟩=some (.int .i64 (num l 2)):=by
   rw [zAf _ _ _ _ _ (by decide),World.cell?_setCell_same' _ _ _ (by rw [zAf _ _ _ _ _ (by decide),zAf _ _ _ _ _ (by decide),d2]; rfl)]
  have e3:((((w3.setCell ⟨N,0,none⟩ (.int .i64 (num l 0))).setCell ⟨N,1,none⟩ (.int .i64 (num l 1))).setCell ⟨N,2,none⟩ (.int .i64 (num l 2))).setCell ⟨N,3,none⟩ (.int .i64 (num l 3))).cell? ⟨N,3,none⟩=some (.int .i64 (num l 3)):=by
   rw [World.cell?_setCell_same' _ _ _ (by rw [zAf _ _ _ _ _ (by decide),zAf _ _ _ _ _ (by decide),zAf _ _ _ _ _ (by decide),d3]; rfl)]
  generalize (((w3.setCell ⟨N,0,none⟩ (.int .i64 (num l 0))).setCell ⟨N,1,none⟩ (.int .i64 (num l 1))).setCell ⟨N,2,none⟩ (.int .i64 (num l 2))).setCell ⟨N,3,none⟩ (.int .i64 (num l 3))=w4 at *;have hn:=HN.out;subst hn;try simp only [Exit.inBlock,Exit.then]
  refine bodyPost_ret (v:=.agg #[.int .i64 (num l 0),.int .i64 (num l 1),.int .i64 (num l 2),.int .i64 (num l 3)]) (by simp [results,Tryz.results70,go_sem,e0,e1,e2,e3]) rfl ?_;exact ⟨rfl,b4⟩
end Go.Proofs.YtlchafedbnihoaaGreat
