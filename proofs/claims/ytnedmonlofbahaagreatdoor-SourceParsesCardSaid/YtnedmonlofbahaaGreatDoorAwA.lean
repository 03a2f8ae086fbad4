/-
  GrAp, ApA, ApB, ApC, ApD: what is wanted of them.
-/
import Derived.Test.YtnedmonlofbahaaGreatDoorGwG
import Derived.Test.YtnedmonlofbahaaGreatDoorDbl
import Derived.Deep.OwnRows
set_option maxRecDepth 100000
set_option maxHeartbeats 16000000
namespace Go.Proofs.YtnedmonlofbahaaGreatDoor
open Go Go.RowKit Go.Joins
set_option linter.all false
def jO (j n:Nat):List Value:=(List.range n).map fun k:Nat=>I ((j:Int)*1000003+(k:Int))
def rj (j n:Nat):List Value:=(List.range n).map fun k:Nat=>I (-(j:Int)*1000003-(k:Int)-1)
theorem jP (j n:Nat):(jO j n).length=n:=by simp[jO]
theorem uB (j n k:Nat) (h:k<n):(jO j n)[k]? =some (I ((j:Int)*1000003+k)):=by simp[jO,h]
theorem vm (j n:Nat):jO j (n+1)=jO j n++[I ((j:Int)*1000003+(n:Int))]:=by simp[jO,List.range_succ]
theorem mt (j n:Nat):rj j (n+1)=rj j n++[I (-(j:Int)*1000003-n-1)]:=by simp[rj,List.range_succ]
theorem l9 {w:World} {B:Nat} {e:TypeId} {a:Option Addr} {n c:Nat} {xs:List Value} (h:w.ownsRow B e 1 (.slice a n c) n xs) (hn:0<n):∃g,a=some ⟨g,0,none⟩:=by
 rcases h.2 with⟨_,h0⟩|⟨g,cap,cur,hv,_⟩
 ·omega
 ·simp only[Value.slice.injEq] at hv;exact⟨g,hv.1⟩
structure Ap1 (w wr:World) (b0 o0 L m B:Nat) (A:Nat->Option Addr) (N C:Nat->Nat) (X:Nat->List Value) (i k:Nat):Prop where
 ls:∀j,j<m->wr.cell? ⟨b0,o0+j,none⟩=some (.slice (A j) (N j) (C j))
 low:∀j,j<m->wr.ownsRow B 3 1 (.slice (A j) (N j) (C j)) (N j) (if j<i then jO j (N j) else if j=i then jO j k++(X j).drop k else X j)
 long:wr.ownsRow w.heap.size 61 1 (.slice (some ⟨L,0,none⟩) m m) m ((List.range m).map fun j=>if j<i then .slice (A j) (N j) (C j) else .slice none 0 0)
 dis:∀i j,i<m->j<m->i≠j->∀k,blk (A i) k->¬blk (A j) k
 off:∀j,j<m->∀k,blk (A j) k->k≠L∧k≠b0
 ne:b0≠L
 keeps:Keeps (fun k=>∃j,j<m∧blk (A j) k) w wr
 new:w.heap.size<=L
theorem Ap1.store {w wr:World} {b0 o0 L m B:Nat} {A:Nat->Option Addr} {N C:Nat->Nat} {X:Nat->List Value} {i k g:Nat} (h:Ap1 w wr b0 o0 L m B A N C X i k) (hi:i<m) (hk:k<N i) (hg:A i=some ⟨g,0,none⟩)
  (hX:∀j,j<m->(X j).length=N j):
  Ap1 w (wr.setCell ⟨g,k,none⟩ (I ((i:Int)*1000003+k))) b0 o0 L m B A N C X i (k+1):=by
 have hb:blk (A i) g:=⟨_,hg,rfl⟩
 have hks:Keeps (fun x=>x=g) wr (wr.setCell ⟨g,k,none⟩ (I ((i:Int)*1000003+k))):=Keeps.setCell wr ⟨g,k,none⟩ _ rfl;have CW:=h.off i hi g hb;refine⟨fun j hj=>hks.cell (h.ls j hj) (fun e=>CW.2 e.symm),?_,?_,h.dis,h.off,h.ne,h.keeps.trans hks (fun x _ e=>⟨i,hi,e▸hb⟩),h.new⟩
 ·intro j hj;by_cases e:j=i
  ·subst e;have h0:=h.low j hj;rw[hg] at h0 ⊢;have h1:=(h0.stored k (I ((j:Int)*1000003+k))).1;simp only[Nat.lt_irrefl,if_false,if_true] at h1 ⊢;have e2:(jO j k++(X j).drop k).set k (I ((j:Int)*1000003+k))=jO j (k+1)++(X j).drop (k+1):=by
    have hl:=hX j hj;rw[List.set_append_right _ _ (by rw[jP];omega),jP,Nat.sub_self,List.drop_eq_getElem_cons (by omega),List.set_cons_zero,vm,List.append_assoc];rfl
   rw[<-e2];exact h1
  ·have h0:=h.low j hj;have:∀x,(Value.slice (A j) (N j) (C j)).ownBlock=some x->¬x=g:=by
    intro x hx hxg;subst hxg;refine h.dis i j hi hj (fun e'=>e e'.symm) x hb ?_;cases hA:A j with
    |none=>rw[hA] at hx;simp[Value.ownBlock] at hx
    |some a=>rw[hA] at hx;simp[Value.ownBlock] at hx;exact⟨a,rfl,hx⟩
   have h1:=hks.owns h0 this;simpa[e] using h1
 ·exact hks.owns h.long (fun x hx hxg=>by simp[Value.ownBlock] at hx;subst hx;exact CW.1 hxg.symm)
theorem Ap1.next {w wr:World} {b0 o0 L m B:Nat} {A:Nat->Option Addr} {N C:Nat->Nat} {X:Nat->List Value} {i:Nat} (h:Ap1 w wr b0 o0 L m B A N C X i (N i)) (hi:i<m) (hX:∀j,j<m->(X j).length=N j):
  Ap1 w (wr.setCell ⟨L,i,none⟩ (.slice (A i) (N i) (C i))) b0 o0 L m B A N C X (i+1) 0:=by
 have hks:Keeps (fun x=>x=L) wr (wr.setCell ⟨L,i,none⟩ (.slice (A i) (N i) (C i))):=Keeps.setCell wr ⟨L,i,none⟩ _ rfl;refine⟨fun j hj=>hks.cell (h.ls j hj) h.ne,?_,?_,h.dis,h.off,h.ne,h.keeps.trans hks (fun x hx e=>by have:=h.new;omega),h.new⟩
 ·intro j hj;have h0:=hks.owns (h.low j hj) (fun x hx hxL=>by
   have:blk (A j) x:=by
    cases hA:A j with
    |none=>rw[hA] at hx;simp[Value.ownBlock] at hx
    |some a=>rw[hA] at hx;simp[Value.ownBlock] at hx;exact⟨a,rfl,hx⟩
   exact(h.off j hj x this).1 hxL)
  by_cases e:j=i
  ·subst e;have hl:=hX j hj;rw[if_neg (Nat.lt_irrefl _),if_pos rfl,List.drop_of_length_le (by omega),List.append_nil] at h0;rw[if_pos (by omega)];exact h0
  ·by_cases e2:j<i
   ·rw[if_pos e2] at h0;rw[if_pos (by omega)];exact h0
   ·rw[if_neg e2,if_neg e] at h0;rw[if_neg (by omega)];by_cases e3:j=i+1
    ·rw[if_pos e3];simpa[jO] using h0
    ·rw[if_neg e3];exact h0
 ·have h0:=(h.long.stored i (.slice (A i) (N i) (C i))).1;have e2:((List.range m).map fun j=>if j<i then Value.slice (A j) (N j) (C j) else .slice none 0 0).set i (.slice (A i) (N i) (C i))=(List.range m).map fun j=>if j<i+1 then Value.slice (A j) (N j) (C j) else .slice none 0 0:=by
   apply List.ext_getElem?;intro j;rw[List.getElem?_set];by_cases e:i=j
   ·subst e;simp[hi]
   ·rw[if_neg e];by_cases hj:j<m
    ·simp[hj];by_cases e2:j<i
     ·rw[if_pos e2,if_pos (by omega)]
     ·rw[if_neg e2,if_neg (by omega)]
    ·simp[hj]
  rw[<-e2];exact h0
structure Ap2 (w wr:World) (b0 o0 L m B:Nat) (A A':Nat->Option Addr) (N C C' T:Nat->Nat):Prop where
 ls:∀j,j<m->wr.cell? ⟨b0,o0+j,none⟩=some (.slice (A j) (N j) (C j))
 low:∀j,j<m->wr.ownsRow B 3 1 (.slice (A j) (N j) (C j)) (N j) (jO j (N j))
 high:∀j,j<m->wr.ownsRow B 3 1 (.slice (A' j) (N j+T j) (C' j)) (N j+T j) (jO j (N j)++rj j (T j))
 long:wr.ownsRow w.heap.size 61 1 (.slice (some ⟨L,0,none⟩) m m) m ((List.range m).map fun j=> .slice (A' j) (N j+T j) (C' j))
 dis:∀i j,i<m->j<m->i≠j->∀k,(blk (A i) k∨blk (A' i) k)->¬(blk (A j) k∨blk (A' j) k)
 off:∀j,j<m->∀k,(blk (A j) k∨blk (A' j) k)->k≠L∧k≠b0
 ne:b0≠L
 keeps:Keeps (fun k=>∃j,j<m∧blk (A j) k) w wr
 new:w.heap.size<=L
 moved:∀j,j<m->A' j=A j∨∃g,A' j=some ⟨g,0,none⟩∧w.heap.size<=g
 base:B<=w.heap.size
theorem Ap1.done {w wr:World} {b0 o0 L m B:Nat} {A:Nat->Option Addr} {N C:Nat->Nat} {X:Nat->List Value} (h:Ap1 w wr b0 o0 L m B A N C X m 0) (hB:B<=w.heap.size):Ap2 w wr b0 o0 L m B A A N C C (fun _=>0):=by
 refine⟨h.ls,?_,?_,?_,?_,?_,h.ne,h.keeps,h.new,fun j _=> .inl rfl,hB⟩
 ·intro j hj;have:=h.low j hj;rwa [if_pos hj] at this
 ·intro j hj;have:=h.low j hj;rw[if_pos hj] at this;simpa[rj] using this
 ·have:=h.long;have e:((List.range m).map fun j=>if j<m then Value.slice (A j) (N j) (C j) else .slice none 0 0)=(List.range m).map fun j=>Value.slice (A j) (N j+0) (C j):=by
   apply List.map_congr_left;intro j hj;rw[if_pos (List.mem_range.1 hj)];rfl
  rw[e] at this;exact this
 ·intro i j hi hj e k hk hk';simp only[or_self] at hk hk';exact h.dis i j hi hj e k hk hk'
 ·intro j hj k hk;simp only[or_self] at hk;exact h.off j hj k hk
theorem km {a:Option Addr} {n c x:Nat} (h:(Value.slice a n c).ownBlock=some x):blk a x:=by
 cases a with
 |none=>simp[Value.ownBlock] at h
 |some a=>simp[Value.ownBlock] at h;exact⟨a,rfl,h⟩
theorem Ap2.app {w wr w1:World} {b0 o0 L m B:Nat} {A A':Nat->Option Addr} {N C C' T:Nat->Nat} {i:Nat} (h:Ap2 w wr b0 o0 L m B A A' N C C' T) (hi:i<m) (o:Obj) (a2:Option Addr) (c2:Nat)
  (aK:w1.ownsRow B 3 1 (.slice a2 (N i+T i+1) c2) (N i+T i+1) (jO i (N i)++rj i (T i)++[I (-(i:Int)*1000003-(T i:Int)-1)]))
  (hk:Keeps (blk (A' i)) (wr.alloc o) w1) (hm:dS (wr.alloc o) (A' i) a2) (hh:kQ (wr.alloc o) w1 3 (A' i) ((N i+T i)*1)):
  Ap2 w (w1.setCell ⟨L,i,none⟩ (.slice a2 (N i+T i+1) c2)) b0 o0 L m B A (fun j=>if j=i then a2 else A' j) N C (fun j=>if j=i then c2 else C' j) (fun j=>if j=i then T i+1 else T j):=by
 have hlt:∀j,j<m->∀k,(blk (A j) k∨blk (A' j) k)->k<wr.heap.size:=by
  intro j hj k hk;rcases hk with⟨a,ha,rfl⟩|⟨a,ha,rfl⟩
  ·exact(World.ownsRow.lt (h.low j hj) a.block (by rw[ha];rfl)).2
  ·exact(World.ownsRow.lt (h.high j hj) a.block (by rw[ha];rfl)).2
 have hk0:Keeps (blk (A' i)) wr w1:=(Keeps.alloc (S:=blk (A' i)) wr o).trans hk (fun _ _ h=>h);have Cy:L<wr.heap.size:=(World.ownsRow.lt h.long L rfl).2;have hLi:¬blk (A' i) L:=fun hb=>(h.off i hi L (.inr hb)).1 rfl
 have hks:Keeps (fun x=>x=L) w1 (w1.setCell ⟨L,i,none⟩ (.slice a2 (N i+T i+1) c2)):=Keeps.setCell w1 ⟨L,i,none⟩ _ rfl;have hk2:Keeps (fun x=>blk (A' i) x∨x=L) wr (w1.setCell ⟨L,i,none⟩ (.slice a2 (N i+T i+1) c2)):=
  (hk0.mono (fun _ _ s=> .inl s)).trans hks (fun _ _ s=> .inr s)
 have EG:=h.keeps.size;have mX:∀k,blk a2 k->blk (A' i) k∨wr.heap.size+1<=k:=by
  intro k hk;rcases hm with rfl|⟨g,rfl,hg⟩
  ·exact .inl hk
  ·obtain⟨a,ha,rfl⟩:=hk;simp only[Option.some.injEq] at ha;subst ha;simp at hg;exact .inr hg
 have Dx:∀p q,p<m->q<m->p≠q->∀k,(blk (A p) k∨blk (if p=i then a2 else A' p) k)->¬(blk (A q) k∨blk (if q=i then a2 else A' q) k):=by
  have key:∀p,p<m->∀k,(blk (A p) k∨blk (if p=i then a2 else A' p) k)->(blk (A p) k∨blk (A' p) k)∨(p=i∧wr.heap.size+1<=k):=by
   intro p hp k hk;by_cases e:p=i
   ·subst e;rw[if_pos rfl] at hk;rcases hk with hk|hk
    ·exact .inl (.inl hk)
    ·rcases mX k hk with h1|h1
     ·exact .inl (.inr h1)
     ·exact .inr ⟨rfl,h1⟩
   ·rw[if_neg e] at hk;exact .inl hk
  intro p q hp hq hpq k hkp hkq;rcases key p hp k hkp with h1|⟨e1,h1⟩
  ·rcases key q hq k hkq with h2|⟨e2,h2⟩
   ·exact h.dis p q hp hq hpq k h1 h2
   ·have:=hlt p hp k h1;omega
  ·rcases key q hq k hkq with h2|⟨e2,h2⟩
   ·have:=hlt q hq k h2;omega
   ·exact hpq (e1.trans e2.symm)
 refine⟨?_,?_,?_,?_,Dx,?_,h.ne,?_,h.new,?_,h.base⟩
 ·intro j hj;refine hk2.cell (h.ls j hj) ?_;rintro(hb|hb)
  ·exact(h.off i hi _ (.inr hb)).2 rfl
  ·exact h.ne hb
 ·intro j hj;by_cases hb:∃x,blk (A j) x∧blk (A' i) x
  ·obtain⟨x,⟨a,ha,hax⟩,⟨a',ha',Bj⟩⟩:=hb;have e:j=i:=by
    by_cases e:j=i
    ·exact e
    ·exact absurd (.inr ⟨a',ha',Bj⟩) (h.dis j i hj hi e x (.inl ⟨a,ha,hax⟩))
   subst e;have haa:A' j=A j:=by
    rcases h.moved j hj with e|⟨g,e,_⟩
    ·exact e
    ·rcases(h.low j hj).2 with⟨hv,_⟩|⟨g2,cap,cur,hv,_⟩
     ·simp only[Value.slice.injEq] at hv;rw[hv.1] at ha;cases ha
     ·simp only[Value.slice.injEq] at hv;rw[e] at ha';rw[hv.1] at ha;simp only[Option.some.injEq] at ha ha';subst ha ha';simp at hax Bj;rw[e,hv.1,hax,Bj]
   rw[haa] at hh;have h1:=(Keeps.alloc (S:=fun _=>False) wr o).owns (h.low j hj) (fun _ _ h=>h);have h2:=iJ h1 hh (by omega);exact hks.owns h2 (fun x hx hxL=>by subst hxL;exact(h.off j hj x (.inl (km hx))).1 rfl)
  ·refine hk2.owns (h.low j hj) ?_;intro x hx;rintro(hb2|hb2)
   ·exact hb ⟨x,km hx,hb2⟩
   ·subst hb2;exact(h.off j hj x (.inl (km hx))).1 rfl
 ·intro j hj;by_cases e:j=i
  ·subst e;simp only[if_true];rw[mt,<-List.append_assoc];refine hks.owns aK ?_;intro x hx hxL;subst hxL;rcases mX x (km hx) with h1|h1
   ·exact hLi h1
   ·omega
  ·simp only[if_neg e];refine hk2.owns (h.high j hj) ?_;intro x hx;rintro(hb2|hb2)
   ·exact h.dis j i hj hi e x (.inr (km hx)) (.inr hb2)
   ·subst hb2;exact(h.off j hj x (.inr (km hx))).1 rfl
 ·have h0:=hk0.owns h.long (fun x hx=>by simp[Value.ownBlock] at hx;subst hx;exact hLi);have h1:=(h0.stored i (.slice a2 (N i+T i+1) c2)).1;have e2:((List.range m).map fun j=>Value.slice (A' j) (N j+T j) (C' j)).set i (.slice a2 (N i+T i+1) c2)=(List.range m).map fun j=>Value.slice (if j=i then a2 else A' j) (N j+if j=i then T i+1 else T j) (if j=i then c2 else C' j):=by
   apply List.ext_getElem?;intro j;rw[List.getElem?_set];by_cases e:i=j
   ·subst e;simp[hi,Nat.add_assoc]
   ·rw[if_neg e];by_cases hj:j<m
    ·have e':¬j=i:=fun h=>e h.symm
     simp[hj,e']
    ·simp[hj]
  rw[<-e2];exact h1
 ·intro j hj k hk;by_cases e:j=i
  ·subst e;rw[if_pos rfl] at hk;rcases hk with hk|hk
   ·exact h.off j hj k (.inl hk)
   ·rcases mX k hk with h1|h1
    ·exact h.off j hj k (.inr h1)
    ·have hb0:b0<wr.heap.size:=World.block_lt_of_cell? wr ⟨b0,_,none⟩ (h.ls j hj);exact⟨by omega,by omega⟩
  ·rw[if_neg e] at hk;exact h.off j hj k hk
 ·refine h.keeps.trans hk2 ?_;intro x hx;rintro(hb|hb)
  ·rcases h.moved i hi with e|⟨g,e,hg⟩
   ·exact⟨i,hi,e▸hb⟩
   ·obtain⟨a,ha,hax⟩:=hb;rw[e] at ha;simp only[Option.some.injEq] at ha;subst ha;simp at hax;omega
  ·have:=h.new;omega
 ·intro j hj;by_cases e:j=i
  ·subst e;rw[if_pos rfl];rcases hm with rfl|⟨g,rfl,hg⟩
   ·exact h.moved j hj
   ·simp at hg;exact .inr ⟨g,rfl,by omega⟩
  ·rw[if_neg e];exact h.moved j hj
theorem Tryz.infoInts:(Tryz.prog.info? 61).map (fun i=>(i.zero,i.size,i.bytes))=some (some (.slice none 0 0),1,24):=by kernel_rfl
theorem Ap1.start {w w1:World} {b0 o0 m B:Nat} {A:Nat->Option Addr} {N C:Nat->Nat} {X:Nat->List Value}
  (hls:∀j,j<m->w.cell? ⟨b0,o0+j,none⟩=some (.slice (A j) (N j) (C j)))
  (low:∀j,j<m->w.ownsRow B 3 1 (.slice (A j) (N j) (C j)) (N j) (X j))
  (dis:∀i j,i<m->j<m->i≠j->∀k,blk (A i) k->¬blk (A j) k)
  (off:∀j,j<m->∀k,blk (A j) k->k≠b0) (hb0:b0<w.heap.size)
  (hl:w1.ownsRow w.heap.size 61 1 (.slice (some ⟨w.heap.size,0,none⟩) m m) m (List.replicate m (.slice none 0 0))) (hn:New w w1):
  Ap1 w w1 b0 o0 w.heap.size m B A N C X 0 0:=by
 refine⟨fun j hj=>hn.cell (hls j hj),?_,?_,dis,?_,by omega,Keeps.mono hn (fun _ _ h=>h.elim),Nat.le_refl _⟩
 ·intro j hj;have h0:=hn.owns (low j hj);rw[if_neg (by omega)];by_cases e:j=0
  ·rw[if_pos e];simpa[jO] using h0
  ·rw[if_neg e];exact h0
 ·have e:((List.range m).map fun j=>if j<0 then Value.slice (A j) (N j) (C j) else .slice none 0 0)=List.replicate m (.slice none 0 0):=by
   apply List.ext_getElem?;intro j;by_cases hj:j<m<;>simp[hj]
  rw[e];exact hl
 ·intro j hj k hk;refine⟨?_,off j hj k hk⟩;obtain⟨a,ha,rfl⟩:=hk;have:=(World.ownsRow.lt (low j hj) a.block (by rw[ha];rfl)).2;omega
theorem du {w:World} {B g n c size:Nat} {e:TypeId} {xs:List Value} (h:w.ownsRow B e size (.slice (some ⟨g,0,none⟩) n c) n xs) {j:Nat} (hj:j<n*size):∃v,w.cell? ⟨g,j,none⟩=some v:=by
 rw[h.cellAt j hj];exact⟨_,List.getElem?_eq_getElem (by rw[h.1];exact hj)⟩
theorem Ap1.read {w wr:World} {b0 o0 L m B:Nat} {A:Nat->Option Addr} {N C:Nat->Nat} {X:Nat->List Value} {i k:Nat} (h:Ap1 w wr b0 o0 L m B A N C X i k) (hi:i<m) (hk:k<N i):
  ∃g v,A i=some ⟨g,0,none⟩∧wr.cell? ⟨g,k,none⟩=some v∧wr.frozen? ⟨g,k,none⟩=false:=by
 have h0:=h.low i hi;obtain⟨g,hg⟩:=l9 h0 (by omega);rw[hg] at h0;obtain⟨v,hv⟩:=du h0 (j:=k) (by omega);exact⟨g,v,hg,hv,h0.frozenAt k⟩
theorem Ap1.readL {w wr:World} {b0 o0 L m B:Nat} {A:Nat->Option Addr} {N C:Nat->Nat} {X:Nat->List Value} {i k:Nat} (h:Ap1 w wr b0 o0 L m B A N C X i k) (hi:i<m):
  (∃v,wr.cell? ⟨L,i,none⟩=some v)∧wr.frozen? ⟨L,i,none⟩=false:=by
 exact⟨du h.long (by omega),h.long.frozenAt i⟩
theorem Ap2.readL {w wr:World} {b0 o0 L m B:Nat} {A A':Nat->Option Addr} {N C C' T:Nat->Nat} {i:Nat} (h:Ap2 w wr b0 o0 L m B A A' N C C' T) (hi:i<m):
  wr.cell? ⟨L,i,none⟩=some (.slice (A' i) (N i+T i) (C' i))∧wr.frozen? ⟨L,i,none⟩=false:=by
 refine⟨?_,h.long.frozenAt i⟩;rw[h.long.cellAt i (by omega)];simp[hi]
theorem Ap2.readLow {w wr:World} {b0 o0 L m B:Nat} {A A':Nat->Option Addr} {N C C' T:Nat->Nat} {i k:Nat} (h:Ap2 w wr b0 o0 L m B A A' N C C' T) (hi:i<m) (hk:k<N i):
  ∃g,A i=some ⟨g,0,none⟩∧wr.cell? ⟨g,k,none⟩=some (.int .i64 ((i:Int)*1000003+(k:Int))):=by
 have h0:=h.low i hi;obtain⟨g,hg⟩:=l9 h0 (by omega);rw[hg] at h0;refine⟨g,hg,?_⟩;rw[h0.cellAt k (by omega),uB _ _ _ hk]
theorem Ap2.readHigh {w wr:World} {b0 o0 L m B:Nat} {A A':Nat->Option Addr} {N C C' T:Nat->Nat} {i k:Nat} (h:Ap2 w wr b0 o0 L m B A A' N C C' T) (hi:i<m) (hk:k<N i):
  ∃g,A' i=some ⟨g,0,none⟩∧wr.cell? ⟨g,k,none⟩=some (.int .i64 ((i:Int)*1000003+(k:Int))):=by
 have h0:=h.high i hi;obtain⟨g,hg⟩:=l9 h0 (by omega);rw[hg] at h0;refine⟨g,hg,?_⟩;rw[h0.cellAt k (by omega),List.getElem?_append_left (by rw[jP];exact hk),uB _ _ _ hk]
theorem Ap2.readTop {w wr:World} {b0 o0 L m B:Nat} {A A':Nat->Option Addr} {N C C' T:Nat->Nat} {i k:Nat} (h:Ap2 w wr b0 o0 L m B A A' N C C' T) (hi:i<m) (hk:k<T i):
  ∃g,A' i=some ⟨g,0,none⟩∧wr.cell? ⟨g,N i+k,none⟩=some (.int .i64 (-(i:Int)*1000003-(k:Int)-1)):=by
 have h0:=h.high i hi;obtain⟨g,hg⟩:=l9 h0 (by omega);rw[hg] at h0;refine⟨g,hg,?_⟩;rw[h0.cellAt _ (by omega),List.getElem?_append_right (by rw[jP];omega),jP];simp[rj,show N i+k-N i=k by omega,hk]
theorem Ap2.app' {w wr w1:World} {b0 o0 L m B:Nat} {A A':Nat->Option Addr} {N C C' T:Nat->Nat} {i:Nat} (h:Ap2 w wr b0 o0 L m B A A' N C C' T) (hi:i<m) (o:Obj) (a2:Option Addr) (c2 t:Nat) (ht:T i=t) (ys:List Value)
  (hy:ys=jO i (N i)++rj i (t+1)) (aK:w1.ownsRow B 3 1 (.slice a2 (N i+t+1) c2) (N i+t+1) ys)
  (hk:Keeps (blk (A' i)) (wr.alloc o) w1) (hm:dS (wr.alloc o) (A' i) a2) (hh:kQ (wr.alloc o) w1 3 (A' i) (N i+t)):
  ((∃v,w1.cell? ⟨L,i,none⟩=some v)∧w1.frozen? ⟨L,i,none⟩=false)∧
  Ap2 w (w1.setCell ⟨L,i,none⟩ (.slice a2 (N i+t+1) c2)) b0 o0 L m B A (fun j=>if j=i then a2 else A' j) N C (fun j=>if j=i then c2 else C' j) (fun j=>if j=i then t+1 else T j):=by
 subst ht hy;have hk0:Keeps (blk (A' i)) wr w1:=(Keeps.alloc (S:=blk (A' i)) wr o).trans hk (fun _ _ h=>h);have hL:=hk0.owns h.long (fun x hx hb=>by simp[Value.ownBlock] at hx;subst hx;exact(h.off i hi _ (.inr hb)).1 rfl);refine⟨⟨du hL (by omega),hL.frozenAt i⟩,h.app hi o a2 c2 ?_ hk hm (by rw[Nat.mul_one];exact hh)⟩;rw[mt,<-List.append_assoc] at aK;exact aK
theorem vn (w:World) (b0 o0 m cm B:Nat) (A:Nat->Option Addr) (N C:Nat->Nat) (X:Nat->List Value)
  (hls:∀j,j<m->w.cell? ⟨b0,o0+j,none⟩=some (.slice (A j) (N j) (C j)))
  (low:∀j,j<m->w.ownsRow B 3 1 (.slice (A j) (N j) (C j)) (N j) (X j))
  (dis:∀i j,i<m->j<m->i≠j->∀k,blk (A i) k->¬blk (A j) k)
  (off:∀j,j<m->∀k,blk (A j) k->k≠b0) (hb0:b0<w.heap.size) (hB:B<=w.heap.size) (hm:m<=1000) (hN:∀j,j<m->(N j+16)*8<=140737488355328):
  Calls Tryz.prog 33 #[.slice (some ⟨b0,o0,none⟩) m cm] w fun e w'=>e= .returned (.bool true)∧Keeps (fun k=>∃j,j<m∧blk (A j) k) w w':=by
 have hX:∀j,j<m->(X j).length=N j:=fun j hj=>by have:=(low j hj).1;omega
 obtain⟨i0,hi0,hz0,hz1,hz2⟩:=info_parts Tryz.infoInts;obtain⟨i1,hi1,hy0,hy1,hy2⟩:=info_parts Tryz.infoInt;have HX:=Lib.hid hX;have HLS:=Lib.hid hls;have Dd:=Lib.hid low;have Da:=Lib.hid dis;have Di:=Lib.hid off;have HN:=Lib.hid hN;clear hX hls low dis off hN;go_enter Tryz.func33,Tryz.ntmps33;go_wp2_with (at_make;refine wpList_make_full _ rfl _ _ 68 rfl w.heap.size 61 i0 (.slice none 0 0) 1 Tryz.underlying68 hi0 hz0 hz1 _ _ _ _ m rfl rfl rfl rfl ?b1 ?b2 ?b3 ?b4);case b1=>rw[hz2];omega
 case b2=>unfold maxLen;omega
 case b3=>simp
 case b4=>
  intro w1 aK hg;rw[toList_madeCells_one] at aK;have hst:=Ap1.start HLS.out Dd.out Da.out Di.out hb0 aK (Keeps.grown hg (fun k h=>by cases h));clear aK hg;go_wp2
  go_loopw [4] (fun i wr=>∃n:Nat,n<=m∧i= .int .i64 n∧Ap1 w wr b0 o0 w.heap.size m B A N C X n 0) (fun i _=>m-(intOf i).toNat)
  case atStart=>exact⟨0,by omega,rfl,hst⟩
  case round=>
   clear hst;obtain⟨n,hn,rfl,hA⟩:=hrel;by_cases hnm:n<m
   ·go_wp2
    go_loopw [5] (fun i wr=>∃k:Nat,k<=N n∧i= .int .i64 k∧Ap1 w wr b0 o0 w.heap.size m B A N C X n k) (fun i _=>N n-(intOf i).toNat)
    case atStart=>exact⟨0,by omega,rfl,hA⟩
    case round=>
     clear hA;obtain⟨k,hk,rfl,hA⟩:=hrel;have hls:=hA.ls n hnm;have hNn:=HN.out n hnm;by_cases hkn:k<N n
     ·obtain⟨g,v,hg,hc,hf⟩:=hA.read hnm hkn;have hnx:=hA.store hnm hkn hg HX.out;rw[hg] at hls;have HG:=Lib.hid hg;clear hg hA;generalize N n=Nn at hls hNn hkn hk hnx;go_wp2
      go_roundw
      case rel=>exact⟨k+1,by omega,by go_num,hnx⟩
      case measure=>simp[intOf];omega
     ·have hke:k=N n:=by omega
      subst hke;obtain⟨⟨v,hv⟩,hfz⟩:=hA.readL hnm;have hnx:=hA.next hnm HX.out;clear hA;generalize hNe:N n=Nn at hls hNn hk hnx hv hfz;have HNE:=Lib.hid hNe;clear hNe;go_wp2
      go_roundw
      case rel=>exact⟨n+1,by omega,by go_num,hnx⟩
      case measure=>simp[intOf];omega
   ·obtain rfl:m=n:=by omega
    have hA2:=hA.done hB;clear hA;go_wp2
    go_loopw [6] (fun i wr=>∃n:Nat,n<=m∧i= .int .i64 n∧∃A' C' T,Ap2 w wr b0 o0 w.heap.size m B A A' N C C' T∧∀j,j<m->T j=if j<n then 16 else 0) (fun i _=>m-(intOf i).toNat)
    case atStart=>exact⟨0,by omega,rfl,_,_,_,hA2,fun j _=>by simp⟩
    case round=>
     clear hA2;obtain⟨n,hn,rfl,A',C',T,hA,hT⟩:=hrel;have HT:=Lib.hid hT;clear hT;by_cases hnm:n<m
     ·go_wp2
      go_loopw [7] (fun i wr=>∃k:Nat,k<=16∧i= .int .i64 k∧∃A' C' T,Ap2 w wr b0 o0 w.heap.size m B A A' N C C' T∧∀j,j<m->T j=if j<n then 16 else if j=n then k else 0) (fun i _=>16-(intOf i).toNat)
      case atStart=>
       refine⟨0,by omega,rfl,_,_,_,hA,fun j hj=>?_⟩;rw[HT.out j hj];by_cases e:j<n
       ·rw[if_pos e,if_pos e]
       ·rw[if_neg e,if_neg e];by_cases e2:j=n<;>simp[e2]
      case round=>
       clear hA HT;obtain⟨k,hk,rfl,A',C',T,hA,hT⟩:=hrel;have hTn:T n=k:=by rw[hT n hnm,if_neg (Nat.lt_irrefl _),if_pos rfl]
       have HT:=Lib.hid hT;clear hT;have hNn:=HN.out n hnm;by_cases hk16:k<16
       ·obtain⟨hcL,hfL⟩:=hA.readL hnm;have aK:=hA.high n hnm;rw[hTn] at hcL aK;have HTN:=Lib.hid hTn;clear hTn;have Cy:w.heap.size<wr.heap.size:=(World.ownsRow.lt hA.long _ rfl).2;go_wp2_with ((at_builtin;refine aR rfl _ _ 61 rfl B 3 i1 (.int .i64 0) 1 8 Tryz.underlying61 hi1 hy0 hy1 hy2 rfl (by decide) (A' n) (N n+k) (C' n) _ rfl ((Keeps.alloc (S:=fun _=>False) _ _).owns aK (fun _ _ h=>h)) _ 1 1 [I (-(n:Int)*1000003-(k:Int)-1)] rfl rfl ?c0 ?c1 ?c2 ?c3 ?c4 ?c5));case c0=>exact ar.lit _ _ _
        case c1=>intro u hu;simp at hu;subst hu;rfl
        case c2=>unfold maxLen;omega
        case c3=>omega
        case c4=>simp;omega
        case c5=>
         intro ao' c' w' az hk' hmv hh;try simp only[Nat.mul_one] at hh
         obtain⟨⟨⟨v,hv⟩,hfz⟩,hnx⟩:=hA.app' hnm _ ao' c' k HTN.out _ (by rw[mt]) az hk' hmv hh;have hT2:∀j,j<m->(if j=n then k+1 else T j)=if j<n then 16 else if j=n then k+1 else 0:=by
          intro j hj;by_cases e:j=n
          ·subst e;simp
          ·rw[if_neg e,HT.out j hj];simp[e]
         have HT2:=Lib.hid hT2;clear hT2 hA aK az hk' hmv hh hcL hfL;go_wp2
         go_roundw
         case rel=>exact⟨k+1,by omega,by go_num,_,_,_,hnx,HT2.out⟩
         case measure=>simp[intOf];omega
       ·obtain rfl:16=k:=by omega
        have HTN:=Lib.hid hTn;clear hTn;go_wp2
        go_roundw
        case rel=>
         refine⟨n+1,by omega,by go_num,_,_,_,hA,fun j hj=>?_⟩;rw[HT.out j hj];by_cases e:j<n
         ·rw[if_pos e,if_pos (by omega)]
         ·by_cases e2:j=n
          ·rw[if_neg e,if_pos e2,if_pos (by omega)]
          ·rw[if_neg e,if_neg e2,if_neg (by omega)]
        case measure=>simp[intOf];omega
     ·obtain rfl:m=n:=by omega
      have CC:∀j,j<m->T j=16:=fun j hj=>by rw[HT.out j hj,if_pos hj]
      have Cf:=Lib.hid CC;have rN:=hA.keeps;clear CC HT;go_wp2
      go_loopw [8] (fun i wz=>∃n:Nat,n<=m∧i= .int .i64 n∧∃q,wz=wr.drewN q) (fun i _=>m-(intOf i).toNat)
      case atStart=>exact⟨0,by omega,rfl,0,rfl⟩
      case round=>
       rename_i wz;obtain⟨n,hn,rfl,q,rfl⟩:=hrel;by_cases hnm:n<m
       ·have hls:=hA.ls n hnm;obtain⟨hcL,hfL⟩:=hA.readL hnm;rw[Cf.out n hnm] at hcL;have hNn:=HN.out n hnm;go_wp2
        go_loopw [9] (fun i wz=>∃k:Nat,k<=N n∧i= .int .i64 k∧∃q,wz=wr.drewN q) (fun i _=>N n-(intOf i).toNat)
        case atStart=>exact⟨0,by omega,rfl,q,rfl⟩
        case round=>
         clear q;obtain⟨k,hk,rfl,q,rfl⟩:=hrel;by_cases hkn:k<N n
         ·obtain⟨g1,hg1,hc1⟩:=hA.readLow hnm hkn;obtain⟨g2,hg2,hc2⟩:=hA.readHigh hnm hkn;rw[hg1] at hls;rw[hg2] at hcL;clear hg1 hg2;go_wp2
          go_roundw
          case rel=>exact⟨k+1,by omega,by go_num,_,rfl⟩
          case measure=>simp[intOf];omega
         ·go_wp2
          go_loopw [10] (fun i wz=>∃k:Nat,k<=16∧i= .int .i64 k∧∃q,wz=wr.drewN q) (fun i _=>16-(intOf i).toNat)
          case atStart=>exact⟨0,by omega,rfl,q,rfl⟩
          case round=>
           clear q;obtain⟨t,ht,rfl,q,rfl⟩:=hrel;by_cases htn:t<16
           ·obtain⟨g2,hg2,hc2⟩:=hA.readTop hnm (k:=t) (by rw[Cf.out n hnm];exact htn);rw[hg2] at hcL;clear hg2;go_wp2
            go_quiet (fail)
            go_wp2
            go_roundw
            case rel=>exact⟨t+1,by omega,by go_num,_,rfl⟩
            case measure=>simp[intOf];omega
           ·go_wp2
            go_roundw
            case rel=>exact⟨n+1,by omega,by go_num,_,rfl⟩
            case measure=>simp[intOf];omega
       ·go_wp2
        go_ret
        exact⟨rfl,rN.trans (Keeps.drewN _ _) (fun _ _ h=>h)⟩
structure Ent where
 a:Option Addr
 c:Nat
 xs:List Int
def jV (t:Ent):Value:= .slice t.a t.xs.length t.c
def Cw (s t:Ent):Prop:=∀k,blk s.a k->¬blk t.a k
theorem vo (w:World):
  Calls Tryz.prog 33 #[.slice none 0 0] w fun e w'=>e= .returned (.bool true)∧New w w':=by
 obtain⟨i0,hi0,hz0,hz1,hz2⟩:=info_parts Tryz.infoInts;go_enter Tryz.func33,Tryz.ntmps33;go_wp2_with (at_make;refine wpList_make_full _ rfl _ _ 68 rfl w.heap.size 61 i0 (.slice none 0 0) 1 Tryz.underlying68 hi0 hz0 hz1 _ _ _ _ 0 rfl rfl rfl rfl ?b1 ?b2 ?b3 ?b4);case b1=>omega
 case b2=>unfold maxLen;omega
 case b3=>exact Nat.le_refl _
 case b4=>
  intro w1 aK hg;have hN:New w w1:=Keeps.grown hg (fun k h=>by cases h);clear aK hg;go_wp2
  go_loopw [4] (fun i wr=>i= .int .i64 0∧wr=w1) (fun _ _=>0)
  case atStart=>exact⟨rfl,rfl⟩
  case round=>
   obtain⟨rfl,rfl⟩:=hrel;obtain⟨wo,rfl⟩:∃wo:World,wo=wr:=⟨_,rfl⟩
   go_wp2
   go_loopw [6] (fun i wr=>i= .int .i64 0∧wr=wo) (fun _ _=>0)
   case atStart=>exact⟨rfl,rfl⟩
   case round=>
    obtain⟨rfl,rfl⟩:=hrel;obtain⟨wo,rfl⟩:∃wo:World,wo=wr:=⟨_,rfl⟩
    go_wp2
    go_loopw [8] (fun i wr=>i= .int .i64 0∧wr=wo) (fun _ _=>0)
    case atStart=>exact⟨rfl,rfl⟩
    case round=>
     obtain⟨rfl,rfl⟩:=hrel;go_wp2
     go_ret
     exact⟨rfl,hN⟩
theorem sQ (w:World) (ao:Option Addr) (c B B2:Nat) (T:List Ent) (Aj:w.ownsRow B2 61 1 (.slice ao T.length c) T.length (T.map jV))
  (low:∀t∈T,bc w B t.a t.c t.xs) (dis:T.Pairwise Cw) (off:∀t∈T,∀k,blk t.a k->k<B2) (hB:B<=w.heap.size) (hm:T.length<=1000) (hN:∀t∈T,t.xs.length<=1024):
  Calls Tryz.prog 33 #[.slice ao T.length c] w fun e w'=>e= .returned (.bool true)∧Keeps (fun k=>∃t∈T,blk t.a k) w w':=by
 rcases Aj.2 with⟨h1,h2⟩|⟨g,cap,cur,hv,hg,hh,_⟩
 ·simp only[Value.slice.injEq] at h1;obtain⟨rfl,h3,rfl⟩:=h1;rw[h3];refine(vo w).mono ?_;rintro e w' ⟨rfl,k⟩;exact⟨rfl,Keeps.mono k (fun _ _ h=>h.elim)⟩
 ·simp only[Value.slice.injEq] at hv;obtain⟨rfl,_,rfl⟩:=hv;have hat:∀j (hj:j<T.length),T.getD j ⟨none,0,[]⟩=T[j]:=fun j hj=>by rw[List.getD_eq_getElem?_getD,List.getElem?_eq_getElem hj];rfl
  have Ag:∀j (hj:j<T.length),T.getD j ⟨none,0,[]⟩∈T:=fun j hj=>by rw[hat j hj];exact List.getElem_mem hj
  refine(vn w g 0 T.length c B (fun j=>(T.getD j ⟨none,0,[]⟩).a) (fun j=>(T.getD j ⟨none,0,[]⟩).xs.length) (fun j=>(T.getD j ⟨none,0,[]⟩).c) (fun j=>Is (T.getD j ⟨none,0,[]⟩).xs) ?_ ?_ ?_ ?_ (Array.getElem?_eq_some_iff.1 hh).1 hB hm ?_).mono ?_
  ·intro j hj;rw[Nat.zero_add,Aj.cellAt j (by omega),List.getElem?_map,List.getElem?_eq_getElem hj,hat j hj];rfl
  ·intro j hj;exact low _ (Ag j hj)
  ·intro i j hi hj hne k h1 h2;rw[hat i hi] at h1;rw[hat j hj] at h2;have hp:=List.pairwise_iff_getElem.1 dis;rcases Nat.lt_or_gt_of_ne hne with h|h
   ·exact hp i j hi hj h k h1 h2
   ·exact hp j i hj hi h k h2 h1
  ·intro j hj k hk e;have:=off _ (Ag j hj) k hk;omega
  ·intro j hj;have:=hN _ (Ag j hj);omega
  ·rintro e w' ⟨rfl,k⟩;exact⟨rfl,Keeps.mono k (fun i _ ⟨j,hj,hb⟩=>⟨_,Ag j hj,hb⟩)⟩
def rep (n:Nat) (m:List Value):List Value:=(List.replicate n m).flatten
theorem jd (m:List Value):rep 0 m=[]:=rfl
theorem j3 (n:Nat) (m:List Value):rep (n+1) m=rep n m++m:=by
 unfold rep;rw[List.replicate_succ',List.flatten_append];simp
theorem iM (n:Nat) (m:List Value):(rep n m).length=n*m.length:=by
 induction n with
 |zero=>simp[jd]
 |succ n ih=>rw[j3,List.length_append,ih,Nat.succ_mul]
theorem BN {n:Nat} {m:List Value} {i j:Nat} (hi:i<n) (hj:j<m.length) (Y:List Value):(rep n m++Y)[i*m.length+j]? =m[j]? :=by
 induction n with
 |zero=>omega
 |succ n ih=>
  have hl:=iM n m;rw[j3,List.append_assoc];by_cases h:i<n
  ·rw[<-ih h];have:i*m.length+j<(rep n m).length:=by
    rw[hl];have:=Nat.mul_le_mul_right m.length (show i+1<=n by omega);rw[Nat.succ_mul] at this;omega
   rw[List.getElem?_append_left this,List.getElem?_append_left this]
  ·obtain rfl:i=n:=by omega
   rw[List.getElem?_append_right (by rw[hl];omega),hl,Nat.add_sub_cancel_left,List.getElem?_append_left hj]
structure Q4 where
 nm:ByteArray
 a1:Option Addr
 n1:Nat
 c1:Nat
 a2:Option Addr
 n2:Nat
 c2:Nat
 a3:Option Addr
 n3:Nat
 c3:Nat
 a4:Option Addr
 n4:Nat
 c4:Nat
abbrev Q4.cs (q:Q4):Array Value:=#[.string q.nm,.slice q.a1 q.n1 q.c1,.slice q.a2 q.n2 q.c2,.slice q.a3 q.n3 q.c3,.slice q.a4 q.n4 q.c4]
abbrev Q4.v (q:Q4):Value:= .agg q.cs
abbrev Gr.q4 (g:Gr):Q4:=⟨g.name,g.aa,g.acts.length,g.ac,g.ea,g.edges.length,g.ec,g.ia,g.ins.length,g.ic,g.oa,g.outs.length,g.oc⟩
def Q4.b (q:Q4) (k:Nat):Prop:=blk q.a1 k∨blk q.a2 k∨blk q.a3 k∨blk q.a4 k
abbrev AT:TypeId:=63
abbrev ET:TypeId:=66
abbrev PT:TypeId:=82
structure G4 (w:World) (B:Nat) (q:Q4) (X1 X2 X3 X4:List Value):Prop where
 o1:w.ownsRow B AT 3 (.slice q.a1 q.n1 q.c1) q.n1 X1
 o2:w.ownsRow B ET 5 (.slice q.a2 q.n2 q.c2) q.n2 X2
 o3:w.ownsRow B PT 3 (.slice q.a3 q.n3 q.c3) q.n3 X3
 o4:w.ownsRow B PT 3 (.slice q.a4 q.n4 q.c4) q.n4 X4
 d:∀k,blk q.a3 k->¬blk q.a4 k
theorem G4.keeps {S:Nat->Prop} {w w':World} {B:Nat} {q:Q4} {X1 X2 X3 X4:List Value} (h:G4 w B q X1 X2 X3 X4) (k:Keeps S w w') (hS:∀j,q.b j->¬S j):G4 w' B q X1 X2 X3 X4:=
 ⟨k.owns h.o1 (fun j hj hs=>hS j (.inl (aM hj)) hs),k.owns h.o2 (fun j hj hs=>hS j (.inr (.inl (aM hj))) hs),k.owns h.o3 (fun j hj hs=>hS j (.inr (.inr (.inl (aM hj)))) hs),k.owns h.o4 (fun j hj hs=>hS j (.inr (.inr (.inr (aM hj)))) hs),h.d⟩
theorem G4.new {w w':World} {B:Nat} {q:Q4} {X1 X2 X3 X4:List Value} (h:G4 w B q X1 X2 X3 X4) (k:New w w'):G4 w' B q X1 X2 X3 X4:=h.keeps k (fun _ _ h=>h)
theorem G4.lo {w:World} {B:Nat} {q:Q4} {X1 X2 X3 X4:List Value} (h:G4 w B q X1 X2 X3 X4) {k:Nat} (hk:q.b k):B<=k∧k<w.heap.size:=by
 rcases hk with hk|hk|hk|hk
 ·exact ai h.o1 hk
 ·exact ai h.o2 hk
 ·exact ai h.o3 hk
 ·exact ai h.o4 hk
theorem GrOwn.q4 {w:World} {B:Nat} {g:Gr} (h:GrOwn w B g):G4 w B g.q4 (g.acts.flatMap ct) (g.edges.flatMap bS) (g.ins.flatMap aH) (g.outs.flatMap aH):=⟨h.ao,h.eo,h.io,h.oo,h.po⟩
theorem nK {w:World} {B e sz n c:Nat} {a:Option Addr} {X:List Value} (h:w.ownsRow B e sz (.slice a n c) n X):X.length=n*sz:=h.1
theorem j5 {w:World} {B e sz n c:Nat} {a:Option Addr} {X:List Value} (h:w.ownsRow B e sz (.slice a n c) n X) (hn:0<n):∃g,a=some ⟨g,0,none⟩∧(∀o,w.frozen? ⟨g,o,none⟩=false)∧g<w.heap.size:=by
 rcases h.2 with⟨_,h0⟩|⟨g,cap,cur,hv,hb,hg,_⟩
 ·omega
 ·simp only[Value.slice.injEq] at hv;exact⟨g,hv.1,fun o=>unfrozen_of_block hg o,(Array.getElem?_eq_some_iff.1 hg).1⟩
theorem D6 (A Y:List Value) (v0 v1 v2:Value) (k:Nat) (hA:A.length=k) (hY:3<=Y.length):(((A++Y).set k v0).set (k+1) v1).set (k+2) v2=(A++[v0,v1,v2])++Y.drop 3:=by
 match Y,hY with
 |y0::y1::y2::r,_=>subst hA;simp
theorem D7 (A Y:List Value) (v0 v1 v2 v3 v4:Value) (k:Nat) (hA:A.length=k) (hY:5<=Y.length):(((((A++Y).set k v0).set (k+1) v1).set (k+2) v2).set (k+3) v3).set (k+4) v4=(A++[v0,v1,v2,v3,v4])++Y.drop 5:=by
 match Y,hY with
 |y0::y1::y2::y3::y4::r,_=>subst hA;simp
theorem Keeps.sets {g:Nat} {w W:World} (h:Keeps (fun x=>x=g) w W) (o:Nat) (v:Value):Keeps (fun x=>x=g) w (W.setCell ⟨g,o,none⟩ v):=h.trans (Keeps.setCell (S:=fun x=>x=g) _ _ _ rfl) (fun _ _ h=>h)
theorem oW {w:World} {B e g n c k:Nat} {m Y:List Value} {v0 v1 v2:Value} (h:w.ownsRow B e 3 (.slice (some ⟨g,0,none⟩) n c) n (rep k m++Y)) (hm:m=[v0,v1,v2]) (hk:k<n):
  ((((w.setCell ⟨g,k*3,none⟩ v0).setCell ⟨g,k*3+1,none⟩ v1).setCell ⟨g,k*3+2,none⟩ v2).ownsRow B e 3 (.slice (some ⟨g,0,none⟩) n c) n (rep (k+1) m++Y.drop 3))∧
  Keeps (fun x=>x=g) w (((w.setCell ⟨g,k*3,none⟩ v0).setCell ⟨g,k*3+1,none⟩ v1).setCell ⟨g,k*3+2,none⟩ v2):=by
 have hl:=nK h;rw[List.length_append,iM] at hl;have hm3:m.length=3:=by rw[hm];rfl
 rw[hm3] at hl;have h1:=(((h.stored (k*3) v0).1.stored (k*3+1) v1).1.stored (k*3+2) v2).1;rw[D6 _ _ _ _ _ _ (by rw[iM,hm3]) (by have:(k+1)*3<=n*3:=Nat.mul_le_mul_right 3 hk;omega)] at h1;rw[j3];subst hm;exact⟨h1,((Keeps.setCell (S:=fun x=>x=g) w _ _ rfl).sets _ _).sets _ _⟩
theorem zu {w:World} {B e g n c k:Nat} {m Y:List Value} {v0 v1 v2 v3 v4:Value} (h:w.ownsRow B e 5 (.slice (some ⟨g,0,none⟩) n c) n (rep k m++Y)) (hm:m=[v0,v1,v2,v3,v4]) (hk:k<n):
  ((((((w.setCell ⟨g,k*5,none⟩ v0).setCell ⟨g,k*5+1,none⟩ v1).setCell ⟨g,k*5+2,none⟩ v2).setCell ⟨g,k*5+3,none⟩ v3).setCell ⟨g,k*5+4,none⟩ v4).ownsRow B e 5 (.slice (some ⟨g,0,none⟩) n c) n (rep (k+1) m++Y.drop 5))∧
  Keeps (fun x=>x=g) w (((((w.setCell ⟨g,k*5,none⟩ v0).setCell ⟨g,k*5+1,none⟩ v1).setCell ⟨g,k*5+2,none⟩ v2).setCell ⟨g,k*5+3,none⟩ v3).setCell ⟨g,k*5+4,none⟩ v4):=by
 have hl:=nK h;rw[List.length_append,iM] at hl;have hm3:m.length=5:=by rw[hm];rfl
 rw[hm3] at hl;have h1:=(((((h.stored (k*5) v0).1.stored (k*5+1) v1).1.stored (k*5+2) v2).1.stored (k*5+3) v3).1.stored (k*5+4) v4).1;rw[D7 _ _ _ _ _ _ _ _ (by rw[iM,hm3]) (by have:(k+1)*5<=n*5:=Nat.mul_le_mul_right 5 hk;omega)] at h1;rw[j3];subst hm;exact⟨h1,((((Keeps.setCell (S:=fun x=>x=g) w _ _ rfl).sets _ _).sets _ _).sets _ _).sets _ _⟩
def mA (n:Int):List Value:=[.string ⟨#[]⟩,.int .u8 n,.slice none 0 0]
def mE (n:Int):List Value:=[I n,I 0,I 0,I 0,.slice none 0 0]
def mP (n p:Int):List Value:=[.string ⟨#[]⟩,I n,I p]
structure Gr1 (w:World) (B N e sz:Nat) (a:Option Addr) (n c:Nat) (X:List Value) (m:List Value) (k:Nat) (a':Option Addr) (c':Nat):Prop where
 old:w.ownsRow B e sz (.slice a n c) n X
 new:w.ownsRow B e sz (.slice a' (n+k) c') (n+k) (X++rep k m)
 mc:a'=a∨∀j,blk a' j->¬blk a j
 mv:∀j,blk a' j->blk a j∨N<=j
theorem Gr1.start {w:World} {B N e sz:Nat} {a:Option Addr} {n c:Nat} {X m:List Value} (h:w.ownsRow B e sz (.slice a n c) n X):Gr1 w B N e sz a n c X m 0 a c:=
 ⟨h,by simpa[jd] using h,.inl rfl,fun _ h=> .inl h⟩
theorem Gr1.keeps {S:Nat->Prop} {w w':World} {B N e sz:Nat} {a:Option Addr} {n c:Nat} {X m:List Value} {k:Nat} {a':Option Addr} {c':Nat} (h:Gr1 w B N e sz a n c X m k a' c') (ks:Keeps S w w') (hS:∀j,blk a j∨blk a' j->¬S j):Gr1 w' B N e sz a n c X m k a' c':=
 ⟨ks.owns h.old (fun j hj hs=>hS j (.inl (aM hj)) hs),ks.owns h.new (fun j hj hs=>hS j (.inr (aM hj)) hs),h.mc,h.mv⟩
theorem Gr1.oth {S:Nat->Prop} {w w':World} {B N e sz:Nat} {a:Option Addr} {n c:Nat} {X m:List Value} {k:Nat} {a':Option Addr} {c':Nat} (h:Gr1 w B N e sz a n c X m k a' c') (ks:Keeps S w w') (hS:∀g,S g->∃cur t fr,w.heap[g]? =some (.cells cur t fr)∧t≠e):Gr1 w' B N e sz a n c X m k a' c':=
 ⟨al h.old ks hS,al h.new ks hS,h.mc,h.mv⟩
theorem Gr1.app {w w1 w2:World} {B N e sz:Nat} {a:Option Addr} {n c:Nat} {X m:List Value} {k:Nat} {a':Option Addr} {c':Nat} (h:Gr1 w B N e sz a n c X m k a' c') (kn:New w w1) (hN:N<=w.heap.size) {a2:Option Addr} {c2:Nat}
  (ho:w2.ownsRow B e sz (.slice a2 (n+k+1) c2) (n+k+1) ((X++rep k m)++m)) (hk:Keeps (blk a') w1 w2) (hm:dS w1 a' a2) (hh:kQ w1 w2 e a' ((n+k)*sz)):Gr1 w2 B N e sz a n c X m (k+1) a2 c2:=by
 have hs:=kn.size;refine⟨?_,?_,?_,?_⟩
 ·have h1:=kn.owns h.old;rcases h.mc with e|hd
  ·rw[e] at hh;exact iJ h1 hh (Nat.mul_le_mul_right sz (by omega))
  ·exact hk.owns h1 (fun x hx hxc=>hd x hxc (aM hx))
 ·rw[j3,<-List.append_assoc];exact ho
 ·rcases hm with rfl|⟨g,rfl,hg⟩
  ·exact h.mc
  ·refine .inr (fun j h1 h2=>?_);obtain⟨x,hx,rfl⟩:=h1;cases hx
   have:=(ai h.old h2).2;simp only at this;omega
 ·intro j hj;rcases cX hm hj with h1|h1
  ·exact h.mv j h1
  ·exact .inr (by omega)
theorem mh {w:World} {B e sz n c:Nat} {a:Option Addr} {m Y:List Value} (h:w.ownsRow B e sz (.slice a n c) n (rep n m++Y)) (hm:m.length=sz):w.ownsRow B e sz (.slice a n c) n (rep n m):=by
 have hl:=nK h;rw[List.length_append,iM,hm] at hl;obtain rfl:Y=[]:=List.eq_nil_of_length_eq_zero (by omega)
 rwa [List.append_nil] at h
theorem kH {w:World} {a:Option Addr} {n:Nat} {m:List Value} (h:ar w a (rep n m)) {i:Nat} (hi:i<n) (h0:0<m.length):
  ∃b off,a=some ⟨b,off,none⟩∧∀j,j<m.length->w.cell? ⟨b,off+i*m.length+j,none⟩=m[j]? :=by
 have hl:(rep n m).length=n*m.length:=iM n m;have hlt:∀j,j<m.length->i*m.length+j<(rep n m).length:=fun j hj=>by
  rw[hl];have:=Nat.mul_le_mul_right m.length hi;rw[Nat.succ_mul] at this;omega
 obtain⟨b,off,e,_⟩:=h.at (hlt 0 h0);refine⟨b,off,e,fun j hj=>?_⟩;obtain⟨b',nD,e',c⟩:=h.at (hlt j hj);rw[e] at e';cases e'
 rw[Nat.add_assoc,c,<-List.getElem?_eq_getElem];have:=BN hi hj []
 rwa [List.append_nil] at this
theorem pe (w:World) (B:Nat) (q:Q4) (n:Int) (hn0:0<=n) (hn1:n<=255) (X1 X2 X3 X4:List Value) (h:G4 w B q X1 X2 X3 X4) (hl:q.n1<=1000∧q.n2<=1000∧q.n3<=1000∧q.n4<=1000) (hB:B<=w.heap.size):
  Calls Tryz.prog 34 #[q.v,I n] w fun e w'=>e= .returned (.tuple #[])∧G4 w' B q (rep q.n1 (mA n)) (rep q.n2 (mE n)) (rep q.n3 (mP n 1)) (rep q.n4 (mP n 2))∧Keeps q.b w w':=by
 obtain⟨nm,a1,n1,c1,a2,n2,c2,a3,n3,c3,a4,n4,c4⟩:=q;obtain⟨l1,l2,l3,l4⟩:=hl;simp only[Q4.v,Q4.cs] at l1 l2 l3 l4 ⊢;have hwn:IntKind.u8.wrap n=n:=IntWalk.u8_in _ (by omega);have HH:=Lib.hid h;obtain⟨post,cu⟩:∃post:Ending->World->Prop,post=fun e w'=>e= .returned (.tuple #[])∧G4 w' B ⟨nm,a1,n1,c1,a2,n2,c2,a3,n3,c3,a4,n4,c4⟩ (rep n1 (mA n)) (rep n2 (mE n)) (rep n3 (mP n 1)) (rep n4 (mP n 2))∧Keeps (Q4.b ⟨nm,a1,n1,c1,a2,n2,c2,a3,n3,c3,a4,n4,c4⟩) w w':=⟨_,rfl⟩
 rw[<-cu];have HP:=Lib.hid cu;clear h cu;go_enter Tryz.func34,Tryz.ntmps34;go_wp2_with fail;have nb:New w (w.alloc (.cells #[.string nm,.slice a1 n1 c1,.slice a2 n2 c2,.slice a3 n3 c3,.slice a4 n4 c4] 26)):=(New.refl w).alloc _;have hb:=heap_alloc_new w (.cells #[.string nm,.slice a1 n1 c1,.slice a2 n2 c2,.slice a3 n3 c3,.slice a4 n4 c4] 26);generalize(w.alloc (.cells #[.string nm,.slice a1 n1 c1,.slice a2 n2 c2,.slice a3 n3 c3,.slice a4 n4 c4] 26))=W0 at nb hb ⊢;obtain⟨BP,hBP⟩:∃b,w.heap.size=b:=⟨_,rfl⟩
 rw[hBP] at hb ⊢;have HQ:Hid (∀j,Q4.b ⟨nm,a1,n1,c1,a2,n2,c2,a3,n3,c3,a4,n4,c4⟩ j->j<BP):=Lib.hid (fun j hj=>by rw[<-hBP];exact(HH.out.lo hj).2);have HD:=Lib.hid (And.intro (HH.out.new nb) (And.intro (Keeps.mono (T:=Q4.b ⟨nm,a1,n1,c1,a2,n2,c2,a3,n3,c3,a4,n4,c4⟩) nb (fun _ _ h=>h.elim)) hb));clear nb hb hBP HH;go_loopw [4] (fun j wr=>∃(k:Nat) (Y:List Value),k<=n1∧j= .int .i64 k∧Hid (G4 wr B ⟨nm,a1,n1,c1,a2,n2,c2,a3,n3,c3,a4,n4,c4⟩ (rep k (mA n)++Y) X2 X3 X4∧Keeps (Q4.b ⟨nm,a1,n1,c1,a2,n2,c2,a3,n3,c3,a4,n4,c4⟩) w wr∧wr.heap[BP]? =some (.cells #[.string nm,.slice a1 n1 c1,.slice a2 n2 c2,.slice a3 n3 c3,.slice a4 n4 c4] 26 (0,0)))) (fun j _=>n1-(intOf j).toNat)
 case atStart=>exact⟨0,X1,by omega,rfl,Lib.hid (by rw[jd,List.nil_append];exact HD.out)⟩
 case round=>
  clear HD;obtain⟨k,Y,hk,rfl,HD⟩:=hrel;obtain⟨g0,g1,g2,g3,g4,hGl⟩:=an HD.out.2.2;by_cases hk1:k<n1
  ·have hkI:(k:Int)<(n1:Int):=by omega
   have hkd:decide (k<n1)=true:=decide_eq_true hk1;obtain⟨g,hg,hfz,hgl⟩:=j5 HD.out.1.o1 (by show 0<n1;omega);simp only at hg;subst hg;obtain⟨dJ,hks⟩:=oW HD.out.1.o1 (show mA n=[.string ⟨#[]⟩,.int .u8 n,.slice none 0 0] from rfl) hk1;have hgq:Q4.b ⟨nm,(some ⟨g,0,none⟩),n1,c1,a2,n2,c2,a3,n3,c3,a4,n4,c4⟩ g:= .inl ⟨_,rfl,rfl⟩;have HN:Hid (G4 (((wr.setCell ⟨g,k*3,none⟩ (.string ⟨#[]⟩)).setCell ⟨g,k*3+1,none⟩ (.int .u8 n)).setCell ⟨g,k*3+2,none⟩ (.slice none 0 0)) B ⟨nm,(some ⟨g,0,none⟩),n1,c1,a2,n2,c2,a3,n3,c3,a4,n4,c4⟩ (rep (k+1) (mA n)++(Y.drop 3)) X2 X3 X4∧Keeps (Q4.b ⟨nm,(some ⟨g,0,none⟩),n1,c1,a2,n2,c2,a3,n3,c3,a4,n4,c4⟩) w (((wr.setCell ⟨g,k*3,none⟩ (.string ⟨#[]⟩)).setCell ⟨g,k*3+1,none⟩ (.int .u8 n)).setCell ⟨g,k*3+2,none⟩ (.slice none 0 0))∧(((wr.setCell ⟨g,k*3,none⟩ (.string ⟨#[]⟩)).setCell ⟨g,k*3+1,none⟩ (.int .u8 n)).setCell ⟨g,k*3+2,none⟩ (.slice none 0 0)).heap[BP]? =some (.cells #[.string nm,.slice (some ⟨g,0,none⟩) n1 c1,.slice a2 n2 c2,.slice a3 n3 c3,.slice a4 n4 c4] 26 (0,0))):=Lib.hid ⟨⟨dJ,al HD.out.1.o2 hks (fun x hx=>by obtain⟨cur,hc⟩:=aL HD.out.1.o1 (aV ⟨_,rfl,rfl⟩);subst hx;exact⟨cur,_,_,hc,by decide⟩),al HD.out.1.o3 hks (fun x hx=>by obtain⟨cur,hc⟩:=aL HD.out.1.o1 (aV ⟨_,rfl,rfl⟩);subst hx;exact⟨cur,_,_,hc,by decide⟩),al HD.out.1.o4 hks (fun x hx=>by obtain⟨cur,hc⟩:=aL HD.out.1.o1 (aV ⟨_,rfl,rfl⟩);subst hx;exact⟨cur,_,_,hc,by decide⟩),HD.out.1.d⟩,HD.out.2.1.trans hks (fun _ _ h=>by subst h;exact hgq),hks.heap HD.out.2.2 (fun h=>by have:=HQ.out g hgq;omega)⟩;clear dJ hks hgq;have hkz:(k+1)*3<=n1*3:=Nat.mul_le_mul_right 3 hk1;obtain⟨u0,y0⟩:=du HD.out.1.o1 (j:=k*3) (by show _<n1*3;omega);obtain⟨u1,y1⟩:=du HD.out.1.o1 (j:=k*3+1) (by show _<n1*3;omega);obtain⟨u2,y2⟩:=du HD.out.1.o1 (j:=k*3+2) (by show _<n1*3;omega);clear hkz;have z0:=hfz (k*3);have z1:=hfz (k*3+1);have z2:=hfz (k*3+2);clear hfz;go_wp2_with fail;go_roundw
   case rel=>exact⟨k+1,Y.drop 3,by omega,by go_num,HN⟩
   case measure=>simp[intOf];omega
  ·have hke:k=n1:=by omega
   have hkd:decide (k<n1)=false:=decide_eq_false hk1;rw[hke] at HD;have HD2:=Lib.hid (And.intro (show G4 wr B ⟨nm,a1,n1,c1,a2,n2,c2,a3,n3,c3,a4,n4,c4⟩ (rep n1 (mA n)) X2 X3 X4 from⟨mh HD.out.1.o1 rfl,HD.out.1.o2,HD.out.1.o3,HD.out.1.o4,HD.out.1.d⟩) HD.out.2);replace HD:=HD2;clear HD2 hke hk hk1;go_wp2_with fail;clear g0 g1 g2 g3 g4 hGl;go_loopw [5] (fun j wr=>∃(k:Nat) (Y:List Value),k<=n2∧j= .int .i64 k∧Hid (G4 wr B ⟨nm,a1,n1,c1,a2,n2,c2,a3,n3,c3,a4,n4,c4⟩ (rep n1 (mA n)) (rep k (mE n)++Y) X3 X4∧Keeps (Q4.b ⟨nm,a1,n1,c1,a2,n2,c2,a3,n3,c3,a4,n4,c4⟩) w wr∧wr.heap[BP]? =some (.cells #[.string nm,.slice a1 n1 c1,.slice a2 n2 c2,.slice a3 n3 c3,.slice a4 n4 c4] 26 (0,0)))) (fun j _=>n2-(intOf j).toNat)
   case atStart=>exact⟨0,X2,by omega,rfl,Lib.hid (by rw[jd,List.nil_append];exact HD.out)⟩
   case round=>
    clear HD;obtain⟨k,Y,hk,rfl,HD⟩:=hrel;obtain⟨g0,g1,g2,g3,g4,hGl⟩:=an HD.out.2.2;by_cases hk1:k<n2
    ·have hkI:(k:Int)<(n2:Int):=by omega
     have hkd:decide (k<n2)=true:=decide_eq_true hk1;obtain⟨g,hg,hfz,hgl⟩:=j5 HD.out.1.o2 (by show 0<n2;omega);simp only at hg;subst hg;obtain⟨dJ,hks⟩:=zu HD.out.1.o2 (show mE n=[I n,I 0,I 0,I 0,.slice none 0 0] from rfl) hk1;have hgq:Q4.b ⟨nm,a1,n1,c1,(some ⟨g,0,none⟩),n2,c2,a3,n3,c3,a4,n4,c4⟩ g:=(.inr∘ .inl) ⟨_,rfl,rfl⟩;have HN:Hid (G4 (((((wr.setCell ⟨g,k*5,none⟩ (I n)).setCell ⟨g,k*5+1,none⟩ (I 0)).setCell ⟨g,k*5+2,none⟩ (I 0)).setCell ⟨g,k*5+3,none⟩ (I 0)).setCell ⟨g,k*5+4,none⟩ (.slice none 0 0)) B ⟨nm,a1,n1,c1,(some ⟨g,0,none⟩),n2,c2,a3,n3,c3,a4,n4,c4⟩ (rep n1 (mA n)) (rep (k+1) (mE n)++(Y.drop 5)) X3 X4∧Keeps (Q4.b ⟨nm,a1,n1,c1,(some ⟨g,0,none⟩),n2,c2,a3,n3,c3,a4,n4,c4⟩) w (((((wr.setCell ⟨g,k*5,none⟩ (I n)).setCell ⟨g,k*5+1,none⟩ (I 0)).setCell ⟨g,k*5+2,none⟩ (I 0)).setCell ⟨g,k*5+3,none⟩ (I 0)).setCell ⟨g,k*5+4,none⟩ (.slice none 0 0))∧(((((wr.setCell ⟨g,k*5,none⟩ (I n)).setCell ⟨g,k*5+1,none⟩ (I 0)).setCell ⟨g,k*5+2,none⟩ (I 0)).setCell ⟨g,k*5+3,none⟩ (I 0)).setCell ⟨g,k*5+4,none⟩ (.slice none 0 0)).heap[BP]? =some (.cells #[.string nm,.slice a1 n1 c1,.slice (some ⟨g,0,none⟩) n2 c2,.slice a3 n3 c3,.slice a4 n4 c4] 26 (0,0))):=Lib.hid ⟨⟨al HD.out.1.o1 hks (fun x hx=>by obtain⟨cur,hc⟩:=aL HD.out.1.o2 (aV ⟨_,rfl,rfl⟩);subst hx;exact⟨cur,_,_,hc,by decide⟩),dJ,al HD.out.1.o3 hks (fun x hx=>by obtain⟨cur,hc⟩:=aL HD.out.1.o2 (aV ⟨_,rfl,rfl⟩);subst hx;exact⟨cur,_,_,hc,by decide⟩),al HD.out.1.o4 hks (fun x hx=>by obtain⟨cur,hc⟩:=aL HD.out.1.o2 (aV ⟨_,rfl,rfl⟩);subst hx;exact⟨cur,_,_,hc,by decide⟩),HD.out.1.d⟩,HD.out.2.1.trans hks (fun _ _ h=>by subst h;exact hgq),hks.heap HD.out.2.2 (fun h=>by have:=HQ.out g hgq;omega)⟩;clear dJ hks hgq;have hkz:(k+1)*5<=n2*5:=Nat.mul_le_mul_right 5 hk1;obtain⟨u0,y0⟩:=du HD.out.1.o2 (j:=k*5) (by show _<n2*5;omega);obtain⟨u1,y1⟩:=du HD.out.1.o2 (j:=k*5+1) (by show _<n2*5;omega);obtain⟨u2,y2⟩:=du HD.out.1.o2 (j:=k*5+2) (by show _<n2*5;omega);obtain⟨u3,y3⟩:=du HD.out.1.o2 (j:=k*5+3) (by show _<n2*5;omega);obtain⟨u4,y4⟩:=du HD.out.1.o2 (j:=k*5+4) (by show _<n2*5;omega);clear hkz;have z0:=hfz (k*5);have z1:=hfz (k*5+1);have z2:=hfz (k*5+2);have z3:=hfz (k*5+3);have z4:=hfz (k*5+4);clear hfz;go_wp2_with fail;go_roundw
     case rel=>exact⟨k+1,Y.drop 5,by omega,by go_num,HN⟩
     case measure=>simp[intOf];omega
    ·have hke:k=n2:=by omega
     have hkd:decide (k<n2)=false:=decide_eq_false hk1;rw[hke] at HD;have HD2:=Lib.hid (And.intro (show G4 wr B ⟨nm,a1,n1,c1,a2,n2,c2,a3,n3,c3,a4,n4,c4⟩ (rep n1 (mA n)) (rep n2 (mE n)) X3 X4 from⟨HD.out.1.o1,mh HD.out.1.o2 rfl,HD.out.1.o3,HD.out.1.o4,HD.out.1.d⟩) HD.out.2);replace HD:=HD2;clear HD2 hke hk hk1;go_wp2_with fail;clear g0 g1 g2 g3 g4 hGl;go_loopw [6] (fun j wr=>∃(k:Nat) (Y:List Value),k<=n3∧j= .int .i64 k∧Hid (G4 wr B ⟨nm,a1,n1,c1,a2,n2,c2,a3,n3,c3,a4,n4,c4⟩ (rep n1 (mA n)) (rep n2 (mE n)) (rep k (mP n 1)++Y) X4∧Keeps (Q4.b ⟨nm,a1,n1,c1,a2,n2,c2,a3,n3,c3,a4,n4,c4⟩) w wr∧wr.heap[BP]? =some (.cells #[.string nm,.slice a1 n1 c1,.slice a2 n2 c2,.slice a3 n3 c3,.slice a4 n4 c4] 26 (0,0)))) (fun j _=>n3-(intOf j).toNat)
     case atStart=>exact⟨0,X3,by omega,rfl,Lib.hid (by rw[jd,List.nil_append];exact HD.out)⟩
     case round=>
      clear HD;obtain⟨k,Y,hk,rfl,HD⟩:=hrel;obtain⟨g0,g1,g2,g3,g4,hGl⟩:=an HD.out.2.2;by_cases hk1:k<n3
      ·have hkI:(k:Int)<(n3:Int):=by omega
       have hkd:decide (k<n3)=true:=decide_eq_true hk1;obtain⟨g,hg,hfz,hgl⟩:=j5 HD.out.1.o3 (by show 0<n3;omega);simp only at hg;subst hg;obtain⟨dJ,hks⟩:=oW HD.out.1.o3 (show mP n 1=[.string ⟨#[]⟩,I n,I 1] from rfl) hk1;have hgq:Q4.b ⟨nm,a1,n1,c1,a2,n2,c2,(some ⟨g,0,none⟩),n3,c3,a4,n4,c4⟩ g:=(.inr∘ .inr∘ .inl) ⟨_,rfl,rfl⟩;have HN:Hid (G4 (((wr.setCell ⟨g,k*3,none⟩ (.string ⟨#[]⟩)).setCell ⟨g,k*3+1,none⟩ (I n)).setCell ⟨g,k*3+2,none⟩ (I 1)) B ⟨nm,a1,n1,c1,a2,n2,c2,(some ⟨g,0,none⟩),n3,c3,a4,n4,c4⟩ (rep n1 (mA n)) (rep n2 (mE n)) (rep (k+1) (mP n 1)++(Y.drop 3)) X4∧Keeps (Q4.b ⟨nm,a1,n1,c1,a2,n2,c2,(some ⟨g,0,none⟩),n3,c3,a4,n4,c4⟩) w (((wr.setCell ⟨g,k*3,none⟩ (.string ⟨#[]⟩)).setCell ⟨g,k*3+1,none⟩ (I n)).setCell ⟨g,k*3+2,none⟩ (I 1))∧(((wr.setCell ⟨g,k*3,none⟩ (.string ⟨#[]⟩)).setCell ⟨g,k*3+1,none⟩ (I n)).setCell ⟨g,k*3+2,none⟩ (I 1)).heap[BP]? =some (.cells #[.string nm,.slice a1 n1 c1,.slice a2 n2 c2,.slice (some ⟨g,0,none⟩) n3 c3,.slice a4 n4 c4] 26 (0,0))):=Lib.hid ⟨⟨al HD.out.1.o1 hks (fun x hx=>by obtain⟨cur,hc⟩:=aL HD.out.1.o3 (aV ⟨_,rfl,rfl⟩);subst hx;exact⟨cur,_,_,hc,by decide⟩),al HD.out.1.o2 hks (fun x hx=>by obtain⟨cur,hc⟩:=aL HD.out.1.o3 (aV ⟨_,rfl,rfl⟩);subst hx;exact⟨cur,_,_,hc,by decide⟩),dJ,hks.owns HD.out.1.o4 (fun x hx hs=>by subst hs;exact HD.out.1.d x ⟨_,rfl,rfl⟩ (aM hx)),HD.out.1.d⟩,HD.out.2.1.trans hks (fun _ _ h=>by subst h;exact hgq),hks.heap HD.out.2.2 (fun h=>by have:=HQ.out g hgq;omega)⟩;clear dJ hks hgq;have hkz:(k+1)*3<=n3*3:=Nat.mul_le_mul_right 3 hk1;obtain⟨u0,y0⟩:=du HD.out.1.o3 (j:=k*3) (by show _<n3*3;omega);obtain⟨u1,y1⟩:=du HD.out.1.o3 (j:=k*3+1) (by show _<n3*3;omega);obtain⟨u2,y2⟩:=du HD.out.1.o3 (j:=k*3+2) (by show _<n3*3;omega);clear hkz;have z0:=hfz (k*3);have z1:=hfz (k*3+1);have z2:=hfz (k*3+2);clear hfz;go_wp2_with fail;go_roundw
       case rel=>exact⟨k+1,Y.drop 3,by omega,by go_num,HN⟩
       case measure=>simp[intOf];omega
      ·have hke:k=n3:=by omega
       have hkd:decide (k<n3)=false:=decide_eq_false hk1;rw[hke] at HD;have HD2:=Lib.hid (And.intro (show G4 wr B ⟨nm,a1,n1,c1,a2,n2,c2,a3,n3,c3,a4,n4,c4⟩ (rep n1 (mA n)) (rep n2 (mE n)) (rep n3 (mP n 1)) X4 from⟨HD.out.1.o1,HD.out.1.o2,mh HD.out.1.o3 rfl,HD.out.1.o4,HD.out.1.d⟩) HD.out.2);replace HD:=HD2;clear HD2 hke hk hk1;go_wp2_with fail;clear g0 g1 g2 g3 g4 hGl;go_loopw [7] (fun j wr=>∃(k:Nat) (Y:List Value),k<=n4∧j= .int .i64 k∧Hid (G4 wr B ⟨nm,a1,n1,c1,a2,n2,c2,a3,n3,c3,a4,n4,c4⟩ (rep n1 (mA n)) (rep n2 (mE n)) (rep n3 (mP n 1)) (rep k (mP n 2)++Y)∧Keeps (Q4.b ⟨nm,a1,n1,c1,a2,n2,c2,a3,n3,c3,a4,n4,c4⟩) w wr∧wr.heap[BP]? =some (.cells #[.string nm,.slice a1 n1 c1,.slice a2 n2 c2,.slice a3 n3 c3,.slice a4 n4 c4] 26 (0,0)))) (fun j _=>n4-(intOf j).toNat)
       case atStart=>exact⟨0,X4,by omega,rfl,Lib.hid (by rw[jd,List.nil_append];exact HD.out)⟩
       case round=>
        clear HD;obtain⟨k,Y,hk,rfl,HD⟩:=hrel;obtain⟨g0,g1,g2,g3,g4,hGl⟩:=an HD.out.2.2;by_cases hk1:k<n4
        ·have hkI:(k:Int)<(n4:Int):=by omega
         have hkd:decide (k<n4)=true:=decide_eq_true hk1;obtain⟨g,hg,hfz,hgl⟩:=j5 HD.out.1.o4 (by show 0<n4;omega);simp only at hg;subst hg;obtain⟨dJ,hks⟩:=oW HD.out.1.o4 (show mP n 2=[.string ⟨#[]⟩,I n,I 2] from rfl) hk1;have hgq:Q4.b ⟨nm,a1,n1,c1,a2,n2,c2,a3,n3,c3,(some ⟨g,0,none⟩),n4,c4⟩ g:=(.inr∘ .inr∘ .inr) ⟨_,rfl,rfl⟩;have HN:Hid (G4 (((wr.setCell ⟨g,k*3,none⟩ (.string ⟨#[]⟩)).setCell ⟨g,k*3+1,none⟩ (I n)).setCell ⟨g,k*3+2,none⟩ (I 2)) B ⟨nm,a1,n1,c1,a2,n2,c2,a3,n3,c3,(some ⟨g,0,none⟩),n4,c4⟩ (rep n1 (mA n)) (rep n2 (mE n)) (rep n3 (mP n 1)) (rep (k+1) (mP n 2)++(Y.drop 3))∧Keeps (Q4.b ⟨nm,a1,n1,c1,a2,n2,c2,a3,n3,c3,(some ⟨g,0,none⟩),n4,c4⟩) w (((wr.setCell ⟨g,k*3,none⟩ (.string ⟨#[]⟩)).setCell ⟨g,k*3+1,none⟩ (I n)).setCell ⟨g,k*3+2,none⟩ (I 2))∧(((wr.setCell ⟨g,k*3,none⟩ (.string ⟨#[]⟩)).setCell ⟨g,k*3+1,none⟩ (I n)).setCell ⟨g,k*3+2,none⟩ (I 2)).heap[BP]? =some (.cells #[.string nm,.slice a1 n1 c1,.slice a2 n2 c2,.slice a3 n3 c3,.slice (some ⟨g,0,none⟩) n4 c4] 26 (0,0))):=Lib.hid ⟨⟨al HD.out.1.o1 hks (fun x hx=>by obtain⟨cur,hc⟩:=aL HD.out.1.o4 (aV ⟨_,rfl,rfl⟩);subst hx;exact⟨cur,_,_,hc,by decide⟩),al HD.out.1.o2 hks (fun x hx=>by obtain⟨cur,hc⟩:=aL HD.out.1.o4 (aV ⟨_,rfl,rfl⟩);subst hx;exact⟨cur,_,_,hc,by decide⟩),hks.owns HD.out.1.o3 (fun x hx hs=>by subst hs;exact HD.out.1.d x (aM hx) ⟨_,rfl,rfl⟩),dJ,HD.out.1.d⟩,HD.out.2.1.trans hks (fun _ _ h=>by subst h;exact hgq),hks.heap HD.out.2.2 (fun h=>by have:=HQ.out g hgq;omega)⟩;clear dJ hks hgq;have hkz:(k+1)*3<=n4*3:=Nat.mul_le_mul_right 3 hk1;obtain⟨u0,y0⟩:=du HD.out.1.o4 (j:=k*3) (by show _<n4*3;omega);obtain⟨u1,y1⟩:=du HD.out.1.o4 (j:=k*3+1) (by show _<n4*3;omega);obtain⟨u2,y2⟩:=du HD.out.1.o4 (j:=k*3+2) (by show _<n4*3;omega);clear hkz;have z0:=hfz (k*3);have z1:=hfz (k*3+1);have z2:=hfz (k*3+2);clear hfz;go_wp2_with fail;go_roundw
         case rel=>exact⟨k+1,Y.drop 3,by omega,by go_num,HN⟩
         case measure=>simp[intOf];omega
        ·have hke:k=n4:=by omega
         have hkd:decide (k<n4)=false:=decide_eq_false hk1;rw[hke] at HD;have HD2:=Lib.hid (And.intro (show G4 wr B ⟨nm,a1,n1,c1,a2,n2,c2,a3,n3,c3,a4,n4,c4⟩ (rep n1 (mA n)) (rep n2 (mE n)) (rep n3 (mP n 1)) (rep n4 (mP n 2)) from⟨HD.out.1.o1,HD.out.1.o2,HD.out.1.o3,mh HD.out.1.o4 rfl,HD.out.1.d⟩) HD.out.2);replace HD:=HD2;clear HD2 hke hk hk1;have iU:Hid (post (.returned (.tuple #[])) wr):=Lib.hid (by rw[HP.out];exact⟨rfl,HD.out.1,HD.out.2.1⟩);go_wp2_with fail;refine bodyPost_end (v:= .tuple #[]) ?_ rfl iU.out;simp[results,Tryz.results34,go_sem]
theorem lr (w:World) (q:Q4) (n:Int) (hn0:0<=n) (hn1:n<=255) (h1:ar w q.a1 (rep q.n1 (mA n))) (h2:ar w q.a2 (rep q.n2 (mE n))) (h3:ar w q.a3 (rep q.n3 (mP n 1))) (h4:ar w q.a4 (rep q.n4 (mP n 2))) (hl:q.n1<=1000∧q.n2<=1000∧q.n3<=1000∧q.n4<=1000):
  Calls Tryz.prog 36 #[q.v,I n] w fun e w'=>e= .returned (.bool true)∧New w w':=by
 obtain⟨nm,a1,n1,c1,a2,n2,c2,a3,n3,c3,a4,n4,c4⟩:=q;obtain⟨l1,l2,l3,l4⟩:=hl;simp only[Q4.v,Q4.cs] at l1 l2 l3 l4 h1 h2 h3 h4 ⊢;have hwn:IntKind.u8.wrap n=n:=IntWalk.u8_in _ (by omega);have hnn:(n != n)=false:=by simp
 have H1:=Lib.hid h1;have H2:=Lib.hid h2;have H3:=Lib.hid h3;have H4:=Lib.hid h4;clear h1 h2 h3 h4;go_enter Tryz.func36,Tryz.ntmps36;go_wp2_with fail;have nb:New w (w.alloc (.cells #[.string nm,.slice a1 n1 c1,.slice a2 n2 c2,.slice a3 n3 c3,.slice a4 n4 c4] 26)):=(New.refl w).alloc _;have HB:=Lib.hid (heap_alloc_new w (.cells #[.string nm,.slice a1 n1 c1,.slice a2 n2 c2,.slice a3 n3 c3,.slice a4 n4 c4] 26));generalize(w.alloc (.cells #[.string nm,.slice a1 n1 c1,.slice a2 n2 c2,.slice a3 n3 c3,.slice a4 n4 c4] 26))=W0 at nb HB ⊢;go_loopw [5] (fun j wr=>∃k:Nat,k<=n1∧j= .int .i64 k∧W0=wr) (fun j _=>n1-(intOf j).toNat)
 case atStart=>exact⟨0,by omega,rfl,rfl⟩
 case round=>
  obtain⟨k,hk,rfl,rfl⟩:=hrel;obtain⟨g0,g1,g2,g3,g4,hGl⟩:=an HB.out;by_cases hk1:k<n1
  ·have hkI:(k:Int)<(n1:Int):=by omega
   have hkd:decide (k<n1)=true:=decide_eq_true hk1;obtain⟨b,off,hab,hc⟩:=kH (H1.out.new nb) hk1 (by show 0<3;decide);subst hab;have y1:W0.cell? ⟨b,off+k*3+1,none⟩=some (.int .u8 n):=hc 1 (by show 1<3;decide);have hbw:=World.block_lt_of_cell? _ _ y1;clear hc;go_wp2_with fail;go_roundw
   case rel=>exact⟨k+1,by omega,by go_num,by first|rfl|trivial⟩
   case measure=>simp[intOf];omega
  ·have hkd:decide (k<n1)=false:=decide_eq_false hk1;go_wp2_with fail;clear g0 g1 g2 g3 g4 hGl;go_loopw [6] (fun j wr=>∃k:Nat,k<=n2∧j= .int .i64 k∧W0=wr) (fun j _=>n2-(intOf j).toNat)
   case atStart=>exact⟨0,by omega,rfl,rfl⟩
   case round=>
    obtain⟨k,hk,rfl,rfl⟩:=hrel;obtain⟨g0,g1,g2,g3,g4,hGl⟩:=an HB.out;by_cases hk1:k<n2
    ·have hkI:(k:Int)<(n2:Int):=by omega
     have hkd:decide (k<n2)=true:=decide_eq_true hk1;obtain⟨b,off,hab,hc⟩:=kH (H2.out.new nb) hk1 (by show 0<5;decide);subst hab;have y0:W0.cell? ⟨b,off+k*5,none⟩=some (I n):=hc 0 (by show 0<5;decide);have hbw:=World.block_lt_of_cell? _ _ y0;clear hc;go_wp2_with fail;go_roundw
     case rel=>exact⟨k+1,by omega,by go_num,by first|rfl|trivial⟩
     case measure=>simp[intOf];omega
    ·have hkd:decide (k<n2)=false:=decide_eq_false hk1;go_wp2_with fail;clear g0 g1 g2 g3 g4 hGl;go_loopw [7] (fun j wr=>∃k:Nat,k<=n3∧j= .int .i64 k∧W0=wr) (fun j _=>n3-(intOf j).toNat)
     case atStart=>exact⟨0,by omega,rfl,rfl⟩
     case round=>
      obtain⟨k,hk,rfl,rfl⟩:=hrel;obtain⟨g0,g1,g2,g3,g4,hGl⟩:=an HB.out;by_cases hk1:k<n3
      ·have hkI:(k:Int)<(n3:Int):=by omega
       have hkd:decide (k<n3)=true:=decide_eq_true hk1;obtain⟨b,off,hab,hc⟩:=kH (H3.out.new nb) hk1 (by show 0<3;decide);subst hab;have y1:W0.cell? ⟨b,off+k*3+1,none⟩=some (I n):=hc 1 (by show 1<3;decide);have y2:W0.cell? ⟨b,off+k*3+2,none⟩=some (I 1):=hc 2 (by show 2<3;decide);have hbw:=World.block_lt_of_cell? _ _ y1;clear hc;go_wp2_with fail;go_roundw
       case rel=>exact⟨k+1,by omega,by go_num,by first|rfl|trivial⟩
       case measure=>simp[intOf];omega
      ·have hkd:decide (k<n3)=false:=decide_eq_false hk1;go_wp2_with fail;clear g0 g1 g2 g3 g4 hGl;go_loopw [8] (fun j wr=>∃k:Nat,k<=n4∧j= .int .i64 k∧W0=wr) (fun j _=>n4-(intOf j).toNat)
       case atStart=>exact⟨0,by omega,rfl,rfl⟩
       case round=>
        obtain⟨k,hk,rfl,rfl⟩:=hrel;obtain⟨g0,g1,g2,g3,g4,hGl⟩:=an HB.out;by_cases hk1:k<n4
        ·have hkI:(k:Int)<(n4:Int):=by omega
         have hkd:decide (k<n4)=true:=decide_eq_true hk1;obtain⟨b,off,hab,hc⟩:=kH (H4.out.new nb) hk1 (by show 0<3;decide);subst hab;have y1:W0.cell? ⟨b,off+k*3+1,none⟩=some (I n):=hc 1 (by show 1<3;decide);have y2:W0.cell? ⟨b,off+k*3+2,none⟩=some (I 2):=hc 2 (by show 2<3;decide);have hbw:=World.block_lt_of_cell? _ _ y1;clear hc;go_wp2_with fail;go_roundw
         case rel=>exact⟨k+1,by omega,by go_num,by first|rfl|trivial⟩
         case measure=>simp[intOf];omega
        ·have hkd:decide (k<n4)=false:=decide_eq_false hk1;go_wp2_with fail;(try go_ret)
         exact⟨rfl,nb⟩
structure Gn (w wr:World) (B P:Nat) (q:Q4) (X1 X2 X3 X4:List Value) (n:Int) (k1 k2 k3 k4:Nat) (b1:Option Addr) (d1:Nat) (b2:Option Addr) (d2:Nat) (b3:Option Addr) (d3:Nat) (b4:Option Addr) (d4:Nat):Prop where
 r1:Gr1 wr B w.heap.size AT 3 q.a1 q.n1 q.c1 X1 (mA n) k1 b1 d1
 r2:Gr1 wr B w.heap.size ET 5 q.a2 q.n2 q.c2 X2 (mE n) k2 b2 d2
 r3:Gr1 wr B w.heap.size PT 3 q.a3 q.n3 q.c3 X3 (mP n 1) k3 b3 d3
 r4:Gr1 wr B w.heap.size PT 3 q.a4 q.n4 q.c4 X4 (mP n 2) k4 b4 d4
 d:∀j,blk q.a3 j∨blk b3 j->¬(blk q.a4 j∨blk b4 j)
 ks:Keeps q.b w wr
 hp:wr.heap[P]? =some (.cells #[.string q.nm,.slice b1 (q.n1+k1) d1,.slice b2 (q.n2+k2) d2,.slice b3 (q.n3+k3) d3,.slice b4 (q.n4+k4) d4] 26 (0,0))
 hr:wr.heap[P+1]? =some (.cells #[.string ⟨#[]⟩,.slice none 0 0,.slice none 0 0,.slice none 0 0,.slice none 0 0] 26 (0,0))
 lo:w.heap.size<=P
theorem Gr1.lt {w:World} {B N e sz:Nat} {a:Option Addr} {n c:Nat} {X m:List Value} {k:Nat} {a':Option Addr} {c':Nat} (h:Gr1 w B N e sz a n c X m k a' c') {j:Nat} (hj:blk a j∨blk a' j):j<w.heap.size:=by
 rcases hj with hj|hj
 ·exact(ai h.old hj).2
 ·exact(ai h.new hj).2
theorem Gr1.tag {w:World} {B N e sz:Nat} {a:Option Addr} {n c:Nat} {X m:List Value} {k:Nat} {a':Option Addr} {c':Nat} (h:Gr1 w B N e sz a n c X m k a' c') {j:Nat} (hj:blk a' j):∃cur,w.heap[j]? =some (.cells cur e (0,0)):=aL h.new (aV hj)
theorem Gn.s1 {w wr:World} {B P:Nat} {q:Q4} {X1 X2 X3 X4:List Value} {n:Int} {k1 k2 k3 k4:Nat} {b1:Option Addr} {d1:Nat} {b2:Option Addr} {d2:Nat} {b3:Option Addr} {d3:Nat} {b4:Option Addr} {d4:Nat} (h:Gn w wr B P q X1 X2 X3 X4 n k1 k2 k3 k4 b1 d1 b2 d2 b3 d3 b4 d4) {w1 w2:World} (kn:New wr w1) {a2:Option Addr} {c2:Nat} (ho:w2.ownsRow B AT 3 (.slice a2 (q.n1+k1+1) c2) (q.n1+k1+1) ((X1++rep k1 (mA n))++mA n)) (hk:Keeps (blk b1) w1 w2) (hm:dS w1 b1 a2) (hh:kQ w1 w2 AT b1 ((q.n1+k1)*3)):
  (w2.cell? ⟨P,1,none⟩=some (.slice b1 (q.n1+k1) d1)∧w2.frozen? ⟨P,1,none⟩=false∧P<w2.heap.size)∧Gn w (w2.setCell ⟨P,1,none⟩ (.slice a2 (q.n1+k1+1) c2)) B P q X1 X2 X3 X4 n (k1+1) k2 k3 k4 a2 c2 b2 d2 b3 d3 b4 d4:=by
 have cw:∀g,blk b1 g->∃cur,w1.heap[g]? =some (.cells cur AT (0,0)):=fun g hg=>(h.r1.keeps kn (fun _ _ h=>h)).tag hg
 have hne:∀b cs,w1.heap[b]? =some (.cells cs 26 (0,0))->¬blk b1 b:=fun b cs hb hx=>by
  obtain⟨cur,hc⟩:=cw b hx;rw[hb] at hc;simp at hc;exact absurd hc.2 (by decide)
 have hp1:=Keeps.heap kn h.hp (fun h=>h);have hr1:=Keeps.heap kn h.hr (fun h=>h);have hp2:=hk.heap hp1 (hne _ _ hp1);have hr2:=hk.heap hr1 (hne _ _ hr1);have hks:Keeps (fun x=>x=P) w2 (w2.setCell ⟨P,1,none⟩ (.slice a2 (q.n1+k1+1) c2)):=Keeps.setCell _ _ _ rfl;have htP:∀e:TypeId,26≠e->∀g,g=P->∃cur t fr,w2.heap[g]? =some (.cells cur t fr)∧t≠e:=fun e he g hg=>⟨_,_,_,hg▸hp2,he⟩
 have hs1:=kn.size;have hlo:=h.lo;refine⟨⟨by rw[cell_of_block hp2];rfl,unfrozen_of_block hp2 _,(Array.getElem?_eq_some_iff.1 hp2).1⟩,⟨(h.r1.app kn h.ks.size ho hk hm hh).oth hks (htP _ (by decide)),((h.r2.keeps kn (fun _ _ h=>h)).oth hk (fun g hg=>by obtain⟨cur,hc⟩:=cw g hg;exact⟨cur,_,_,hc,by decide⟩)).oth hks (htP _ (by decide)),((h.r3.keeps kn (fun _ _ h=>h)).oth hk (fun g hg=>by obtain⟨cur,hc⟩:=cw g hg;exact⟨cur,_,_,hc,by decide⟩)).oth hks (htP _ (by decide)),((h.r4.keeps kn (fun _ _ h=>h)).oth hk (fun g hg=>by obtain⟨cur,hc⟩:=cw g hg;exact⟨cur,_,_,hc,by decide⟩)).oth hks (htP _ (by decide)),?_,?_,?_,hks.heap hr2 (by omega),hlo⟩⟩
 ·intro j hj1 hj2;have l3:∀j,blk q.a3 j∨blk b3 j->j<w1.heap.size:=fun j hj=>Nat.lt_of_lt_of_le (h.r3.lt hj) hs1
  have l4:∀j,blk q.a4 j∨blk b4 j->j<w1.heap.size:=fun j hj=>Nat.lt_of_lt_of_le (h.r4.lt hj) hs1
  exact h.d j hj1 hj2
 ·refine((h.ks.trans kn (fun _ _ h=>h.elim)).trans hk (fun j hj hx=>?_)).trans hks (fun j hj hx=>by omega);rcases h.r1.mv j hx with hy|hy
  ·exact .inl hy
  ·omega
 ·have:=block_setCell (i:=1) hp2 (.slice a2 (q.n1+k1+1) c2);simpa[Nat.add_assoc] using this
theorem Gn.s2 {w wr:World} {B P:Nat} {q:Q4} {X1 X2 X3 X4:List Value} {n:Int} {k1 k2 k3 k4:Nat} {b1:Option Addr} {d1:Nat} {b2:Option Addr} {d2:Nat} {b3:Option Addr} {d3:Nat} {b4:Option Addr} {d4:Nat} (h:Gn w wr B P q X1 X2 X3 X4 n k1 k2 k3 k4 b1 d1 b2 d2 b3 d3 b4 d4) {w1 w2:World} (kn:New wr w1) {a2:Option Addr} {c2:Nat} (ho:w2.ownsRow B ET 5 (.slice a2 (q.n2+k2+1) c2) (q.n2+k2+1) ((X2++rep k2 (mE n))++mE n)) (hk:Keeps (blk b2) w1 w2) (hm:dS w1 b2 a2) (hh:kQ w1 w2 ET b2 ((q.n2+k2)*5)):
  (w2.cell? ⟨P,2,none⟩=some (.slice b2 (q.n2+k2) d2)∧w2.frozen? ⟨P,2,none⟩=false∧P<w2.heap.size)∧Gn w (w2.setCell ⟨P,2,none⟩ (.slice a2 (q.n2+k2+1) c2)) B P q X1 X2 X3 X4 n k1 (k2+1) k3 k4 b1 d1 a2 c2 b3 d3 b4 d4:=by
 have cw:∀g,blk b2 g->∃cur,w1.heap[g]? =some (.cells cur ET (0,0)):=fun g hg=>(h.r2.keeps kn (fun _ _ h=>h)).tag hg
 have hne:∀b cs,w1.heap[b]? =some (.cells cs 26 (0,0))->¬blk b2 b:=fun b cs hb hx=>by
  obtain⟨cur,hc⟩:=cw b hx;rw[hb] at hc;simp at hc;exact absurd hc.2 (by decide)
 have hp1:=Keeps.heap kn h.hp (fun h=>h);have hr1:=Keeps.heap kn h.hr (fun h=>h);have hp2:=hk.heap hp1 (hne _ _ hp1);have hr2:=hk.heap hr1 (hne _ _ hr1);have hks:Keeps (fun x=>x=P) w2 (w2.setCell ⟨P,2,none⟩ (.slice a2 (q.n2+k2+1) c2)):=Keeps.setCell _ _ _ rfl;have htP:∀e:TypeId,26≠e->∀g,g=P->∃cur t fr,w2.heap[g]? =some (.cells cur t fr)∧t≠e:=fun e he g hg=>⟨_,_,_,hg▸hp2,he⟩
 have hs1:=kn.size;have hlo:=h.lo;refine⟨⟨by rw[cell_of_block hp2];rfl,unfrozen_of_block hp2 _,(Array.getElem?_eq_some_iff.1 hp2).1⟩,⟨((h.r1.keeps kn (fun _ _ h=>h)).oth hk (fun g hg=>by obtain⟨cur,hc⟩:=cw g hg;exact⟨cur,_,_,hc,by decide⟩)).oth hks (htP _ (by decide)),(h.r2.app kn h.ks.size ho hk hm hh).oth hks (htP _ (by decide)),((h.r3.keeps kn (fun _ _ h=>h)).oth hk (fun g hg=>by obtain⟨cur,hc⟩:=cw g hg;exact⟨cur,_,_,hc,by decide⟩)).oth hks (htP _ (by decide)),((h.r4.keeps kn (fun _ _ h=>h)).oth hk (fun g hg=>by obtain⟨cur,hc⟩:=cw g hg;exact⟨cur,_,_,hc,by decide⟩)).oth hks (htP _ (by decide)),?_,?_,?_,hks.heap hr2 (by omega),hlo⟩⟩
 ·intro j hj1 hj2;have l3:∀j,blk q.a3 j∨blk b3 j->j<w1.heap.size:=fun j hj=>Nat.lt_of_lt_of_le (h.r3.lt hj) hs1
  have l4:∀j,blk q.a4 j∨blk b4 j->j<w1.heap.size:=fun j hj=>Nat.lt_of_lt_of_le (h.r4.lt hj) hs1
  exact h.d j hj1 hj2
 ·refine((h.ks.trans kn (fun _ _ h=>h.elim)).trans hk (fun j hj hx=>?_)).trans hks (fun j hj hx=>by omega);rcases h.r2.mv j hx with hy|hy
  ·exact .inr (.inl hy)
  ·omega
 ·have:=block_setCell (i:=2) hp2 (.slice a2 (q.n2+k2+1) c2);simpa[Nat.add_assoc] using this
theorem Gn.s3 {w wr:World} {B P:Nat} {q:Q4} {X1 X2 X3 X4:List Value} {n:Int} {k1 k2 k3 k4:Nat} {b1:Option Addr} {d1:Nat} {b2:Option Addr} {d2:Nat} {b3:Option Addr} {d3:Nat} {b4:Option Addr} {d4:Nat} (h:Gn w wr B P q X1 X2 X3 X4 n k1 k2 k3 k4 b1 d1 b2 d2 b3 d3 b4 d4) {w1 w2:World} (kn:New wr w1) {a2:Option Addr} {c2:Nat} (ho:w2.ownsRow B PT 3 (.slice a2 (q.n3+k3+1) c2) (q.n3+k3+1) ((X3++rep k3 (mP n 1))++mP n 1)) (hk:Keeps (blk b3) w1 w2) (hm:dS w1 b3 a2) (hh:kQ w1 w2 PT b3 ((q.n3+k3)*3)):
  (w2.cell? ⟨P,3,none⟩=some (.slice b3 (q.n3+k3) d3)∧w2.frozen? ⟨P,3,none⟩=false∧P<w2.heap.size)∧Gn w (w2.setCell ⟨P,3,none⟩ (.slice a2 (q.n3+k3+1) c2)) B P q X1 X2 X3 X4 n k1 k2 (k3+1) k4 b1 d1 b2 d2 a2 c2 b4 d4:=by
 have cw:∀g,blk b3 g->∃cur,w1.heap[g]? =some (.cells cur PT (0,0)):=fun g hg=>(h.r3.keeps kn (fun _ _ h=>h)).tag hg
 have hne:∀b cs,w1.heap[b]? =some (.cells cs 26 (0,0))->¬blk b3 b:=fun b cs hb hx=>by
  obtain⟨cur,hc⟩:=cw b hx;rw[hb] at hc;simp at hc;exact absurd hc.2 (by decide)
 have hp1:=Keeps.heap kn h.hp (fun h=>h);have hr1:=Keeps.heap kn h.hr (fun h=>h);have hp2:=hk.heap hp1 (hne _ _ hp1);have hr2:=hk.heap hr1 (hne _ _ hr1);have hks:Keeps (fun x=>x=P) w2 (w2.setCell ⟨P,3,none⟩ (.slice a2 (q.n3+k3+1) c2)):=Keeps.setCell _ _ _ rfl;have htP:∀e:TypeId,26≠e->∀g,g=P->∃cur t fr,w2.heap[g]? =some (.cells cur t fr)∧t≠e:=fun e he g hg=>⟨_,_,_,hg▸hp2,he⟩
 have hs1:=kn.size;have hlo:=h.lo;refine⟨⟨by rw[cell_of_block hp2];rfl,unfrozen_of_block hp2 _,(Array.getElem?_eq_some_iff.1 hp2).1⟩,⟨((h.r1.keeps kn (fun _ _ h=>h)).oth hk (fun g hg=>by obtain⟨cur,hc⟩:=cw g hg;exact⟨cur,_,_,hc,by decide⟩)).oth hks (htP _ (by decide)),((h.r2.keeps kn (fun _ _ h=>h)).oth hk (fun g hg=>by obtain⟨cur,hc⟩:=cw g hg;exact⟨cur,_,_,hc,by decide⟩)).oth hks (htP _ (by decide)),(h.r3.app kn h.ks.size ho hk hm hh).oth hks (htP _ (by decide)),((h.r4.keeps kn (fun _ _ h=>h)).keeps hk (fun j hj hs=>h.d j (.inr hs) hj)).oth hks (htP _ (by decide)),?_,?_,?_,hks.heap hr2 (by omega),hlo⟩⟩
 ·intro j hj1 hj2;have l3:∀j,blk q.a3 j∨blk b3 j->j<w1.heap.size:=fun j hj=>Nat.lt_of_lt_of_le (h.r3.lt hj) hs1
  have l4:∀j,blk q.a4 j∨blk b4 j->j<w1.heap.size:=fun j hj=>Nat.lt_of_lt_of_le (h.r4.lt hj) hs1
  rcases hj1 with hj1|hj1
  ·exact h.d j (.inl hj1) hj2
  ·rcases cX hm hj1 with hx|hx
   ·exact h.d j (.inr hx) hj2
   ·have:=l4 j hj2;omega
 ·refine((h.ks.trans kn (fun _ _ h=>h.elim)).trans hk (fun j hj hx=>?_)).trans hks (fun j hj hx=>by omega);rcases h.r3.mv j hx with hy|hy
  ·exact .inr (.inr (.inl hy))
  ·omega
 ·have:=block_setCell (i:=3) hp2 (.slice a2 (q.n3+k3+1) c2);simpa[Nat.add_assoc] using this
theorem Gn.s4 {w wr:World} {B P:Nat} {q:Q4} {X1 X2 X3 X4:List Value} {n:Int} {k1 k2 k3 k4:Nat} {b1:Option Addr} {d1:Nat} {b2:Option Addr} {d2:Nat} {b3:Option Addr} {d3:Nat} {b4:Option Addr} {d4:Nat} (h:Gn w wr B P q X1 X2 X3 X4 n k1 k2 k3 k4 b1 d1 b2 d2 b3 d3 b4 d4) {w1 w2:World} (kn:New wr w1) {a2:Option Addr} {c2:Nat} (ho:w2.ownsRow B PT 3 (.slice a2 (q.n4+k4+1) c2) (q.n4+k4+1) ((X4++rep k4 (mP n 2))++mP n 2)) (hk:Keeps (blk b4) w1 w2) (hm:dS w1 b4 a2) (hh:kQ w1 w2 PT b4 ((q.n4+k4)*3)):
  (w2.cell? ⟨P,4,none⟩=some (.slice b4 (q.n4+k4) d4)∧w2.frozen? ⟨P,4,none⟩=false∧P<w2.heap.size)∧Gn w (w2.setCell ⟨P,4,none⟩ (.slice a2 (q.n4+k4+1) c2)) B P q X1 X2 X3 X4 n k1 k2 k3 (k4+1) b1 d1 b2 d2 b3 d3 a2 c2:=by
 have cw:∀g,blk b4 g->∃cur,w1.heap[g]? =some (.cells cur PT (0,0)):=fun g hg=>(h.r4.keeps kn (fun _ _ h=>h)).tag hg
 have hne:∀b cs,w1.heap[b]? =some (.cells cs 26 (0,0))->¬blk b4 b:=fun b cs hb hx=>by
  obtain⟨cur,hc⟩:=cw b hx;rw[hb] at hc;simp at hc;exact absurd hc.2 (by decide)
 have hp1:=Keeps.heap kn h.hp (fun h=>h);have hr1:=Keeps.heap kn h.hr (fun h=>h);have hp2:=hk.heap hp1 (hne _ _ hp1);have hr2:=hk.heap hr1 (hne _ _ hr1);have hks:Keeps (fun x=>x=P) w2 (w2.setCell ⟨P,4,none⟩ (.slice a2 (q.n4+k4+1) c2)):=Keeps.setCell _ _ _ rfl;have htP:∀e:TypeId,26≠e->∀g,g=P->∃cur t fr,w2.heap[g]? =some (.cells cur t fr)∧t≠e:=fun e he g hg=>⟨_,_,_,hg▸hp2,he⟩
 have hs1:=kn.size;have hlo:=h.lo;refine⟨⟨by rw[cell_of_block hp2];rfl,unfrozen_of_block hp2 _,(Array.getElem?_eq_some_iff.1 hp2).1⟩,⟨((h.r1.keeps kn (fun _ _ h=>h)).oth hk (fun g hg=>by obtain⟨cur,hc⟩:=cw g hg;exact⟨cur,_,_,hc,by decide⟩)).oth hks (htP _ (by decide)),((h.r2.keeps kn (fun _ _ h=>h)).oth hk (fun g hg=>by obtain⟨cur,hc⟩:=cw g hg;exact⟨cur,_,_,hc,by decide⟩)).oth hks (htP _ (by decide)),((h.r3.keeps kn (fun _ _ h=>h)).keeps hk (fun j hj hs=>h.d j hj (.inr hs))).oth hks (htP _ (by decide)),(h.r4.app kn h.ks.size ho hk hm hh).oth hks (htP _ (by decide)),?_,?_,?_,hks.heap hr2 (by omega),hlo⟩⟩
 ·intro j hj1 hj2;have l3:∀j,blk q.a3 j∨blk b3 j->j<w1.heap.size:=fun j hj=>Nat.lt_of_lt_of_le (h.r3.lt hj) hs1
  have l4:∀j,blk q.a4 j∨blk b4 j->j<w1.heap.size:=fun j hj=>Nat.lt_of_lt_of_le (h.r4.lt hj) hs1
  rcases hj2 with hj2|hj2
  ·exact h.d j hj1 (.inl hj2)
  ·rcases cX hm hj2 with hx|hx
   ·exact h.d j hj1 (.inr hx)
   ·have:=l3 j hj1;omega
 ·refine((h.ks.trans kn (fun _ _ h=>h.elim)).trans hk (fun j hj hx=>?_)).trans hks (fun j hj hx=>by omega);rcases h.r4.mv j hx with hy|hy
  ·exact .inr (.inr (.inr hy))
  ·omega
 ·have:=block_setCell (i:=4) hp2 (.slice a2 (q.n4+k4+1) c2);simpa[Nat.add_assoc] using this
theorem qP (n p:Int):(∀u∈mA n,u.oneCell'=true)∧(∀u∈mE n,u.oneCell'=true)∧(∀u∈mP n p,u.oneCell'=true):=by
 refine⟨fun u hu=>?_,fun u hu=>?_,fun u hu=>?_⟩<;>(simp only[mA,mE,mP,List.mem_cons,List.not_mem_nil,or_false] at hu)<;>rcases hu with rfl|rfl|rfl|rfl|rfl<;>rfl
theorem pA (w:World) (B:Nat) (q:Q4) (n:Int) (hn0:0<=n) (hn1:n<=255) (X1 X2 X3 X4:List Value) (h:G4 w B q X1 X2 X3 X4) (hl:q.n1<=1000∧q.n2<=1000∧q.n3<=1000∧q.n4<=1000) (hB:B<=w.heap.size):
  Calls Tryz.prog 35 #[q.v,I n] w fun e w'=>∃b1 d1 b2 d2 b3 d3 b4 d4,e= .returned (Q4.v ⟨q.nm,b1,q.n1+16,d1,b2,q.n2+16,d2,b3,q.n3+16,d3,b4,q.n4+16,d4⟩)∧G4 w' B q X1 X2 X3 X4∧G4 w' B ⟨q.nm,b1,q.n1+16,d1,b2,q.n2+16,d2,b3,q.n3+16,d3,b4,q.n4+16,d4⟩ (X1++rep 16 (mA n)) (X2++rep 16 (mE n)) (X3++rep 16 (mP n 1)) (X4++rep 16 (mP n 2))∧Keeps q.b w w'∧(∀j,Q4.b ⟨q.nm,b1,q.n1+16,d1,b2,q.n2+16,d2,b3,q.n3+16,d3,b4,q.n4+16,d4⟩ j->q.b j∨w.heap.size<=j):=by
 obtain⟨l1,l2,l3,l4⟩:=hl;obtain⟨ia,hia,ha0,ha1,ha2⟩:=info_parts qK;obtain⟨ie,hie,he0,he1,he2⟩:=info_parts oz;obtain⟨ip,hip,hp0,hp1,hp2⟩:=info_parts oB;have hwn:IntKind.u8.wrap n=n:=IntWalk.u8_in _ (by omega);have HH:=Lib.hid h;obtain⟨post,cu⟩:∃post:Ending->World->Prop,post=fun e w'=>∃b1 d1 b2 d2 b3 d3 b4 d4,e= .returned (Q4.v ⟨q.nm,b1,q.n1+16,d1,b2,q.n2+16,d2,b3,q.n3+16,d3,b4,q.n4+16,d4⟩)∧G4 w' B q X1 X2 X3 X4∧G4 w' B ⟨q.nm,b1,q.n1+16,d1,b2,q.n2+16,d2,b3,q.n3+16,d3,b4,q.n4+16,d4⟩ (X1++rep 16 (mA n)) (X2++rep 16 (mE n)) (X3++rep 16 (mP n 1)) (X4++rep 16 (mP n 2))∧Keeps q.b w w'∧(∀j,Q4.b ⟨q.nm,b1,q.n1+16,d1,b2,q.n2+16,d2,b3,q.n3+16,d3,b4,q.n4+16,d4⟩ j->q.b j∨w.heap.size<=j):=⟨_,rfl⟩
 rw[<-cu];have HP:=Lib.hid cu;simp only[Q4.v,Q4.cs];clear h cu;go_enter Tryz.func35,Tryz.ntmps35;go_wp2_with fail;have na:New w (w.alloc (.cells #[.string q.nm,.slice q.a1 q.n1 q.c1,.slice q.a2 q.n2 q.c2,.slice q.a3 q.n3 q.c3,.slice q.a4 q.n4 q.c4] 26)):=(New.refl w).alloc _;have ha:=heap_alloc_new w (.cells #[.string q.nm,.slice q.a1 q.n1 q.c1,.slice q.a2 q.n2 q.c2,.slice q.a3 q.n3 q.c3,.slice q.a4 q.n4 q.c4] 26);have sa:(w.alloc (.cells #[.string q.nm,.slice q.a1 q.n1 q.c1,.slice q.a2 q.n2 q.c2,.slice q.a3 q.n3 q.c3,.slice q.a4 q.n4 q.c4] 26)).heap.size=w.heap.size+1:=aG _ _;generalize(w.alloc (.cells #[.string q.nm,.slice q.a1 q.n1 q.c1,.slice q.a2 q.n2 q.c2,.slice q.a3 q.n3 q.c3,.slice q.a4 q.n4 q.c4] 26))=wa at na ha sa ⊢;have nb:New wa (wa.alloc (.cells #[.string ⟨#[]⟩,.slice none 0 0,.slice none 0 0,.slice none 0 0,.slice none 0 0] 26)):=(New.refl wa).alloc _;have hb:=heap_alloc_new wa (.cells #[.string ⟨#[]⟩,.slice none 0 0,.slice none 0 0,.slice none 0 0,.slice none 0 0] 26);rw[sa] at hb;generalize(wa.alloc (.cells #[.string ⟨#[]⟩,.slice none 0 0,.slice none 0 0,.slice none 0 0,.slice none 0 0] 26))=W0 at nb hb ⊢;obtain⟨P,hPe⟩:∃P,w.heap.size=P:=⟨_,rfl⟩
 have HD:Hid (Gn w W0 B P q X1 X2 X3 X4 n 0 0 0 0 q.a1 q.c1 q.a2 q.c2 q.a3 q.c3 q.a4 q.c4):=Lib.hid (by
  have g:=HH.out.new (na.trans nb);exact⟨Gr1.start g.o1,Gr1.start g.o2,Gr1.start g.o3,Gr1.start g.o4,fun j h1 h2=>g.d j (by simpa using h1) (by simpa using h2),Keeps.mono (na.trans nb) (fun _ _ h=>h.elim),by rw[<-hPe];exact Keeps.heap nb ha (fun h=>h),by rw[<-hPe];exact hb,by omega⟩)
 rw[hPe];clear na nb ha hb sa hPe HH;go_loopw [5] (fun j wr=>∃(k:Nat) (b1:Option Addr) (d1:Nat) (b2:Option Addr) (d2:Nat) (b3:Option Addr) (d3:Nat) (b4:Option Addr) (d4:Nat),k<=16∧j= .int .i64 k∧Hid (Gn w wr B P q X1 X2 X3 X4 n k k k k b1 d1 b2 d2 b3 d3 b4 d4)) (fun j _=>16-(intOf j).toNat)
 case atStart=>exact⟨0,_,_,_,_,_,_,_,_,by omega,rfl,HD⟩
 case round=>
  clear HD;obtain⟨k,b1,d1,b2,d2,b3,d3,b4,d4,hk,rfl,HD⟩:=hrel;by_cases hk1:k<16
  ·have hkI:(k:Int)<16:=by omega
   have hkd:decide (k<16)=true:=decide_eq_true hk1;have hlo:=HD.out.lo;have hsz:=HD.out.ks.size;obtain⟨g0,g1,g2,g3,g4,hGl⟩:=an HD.out.hp;have kz1:New wr (wr.alloc (.cells #[.string ⟨#[]⟩,.int .u8 n,.slice none 0 0] AT)):=(New.refl _).alloc _;have bi:ar (wr.alloc (.cells #[.string ⟨#[]⟩,.int .u8 n,.slice none 0 0] AT)) (some ⟨wr.heap.size,0,none⟩) (mA n):=ar.lit _ _ _;have hoz:=(HD.out.r1.keeps kz1 (fun _ _ h=>h)).new;have hbz:B<=(wr.alloc (.cells #[.string ⟨#[]⟩,.int .u8 n,.slice none 0 0] AT)).heap.size:=Nat.le_trans hB (Nat.le_trans HD.out.ks.size kz1.size);go_wp2_with (at_builtin;refine aR rfl _ _ 22 rfl B AT ia _ 3 48 Tryz.underlying22 hia ha0 ha1 ha2 rfl (by decide) b1 (q.n1+k) d1 (X1++rep k (mA n)) rfl hoz (some ⟨wr.heap.size,0,none⟩) 1 1 (mA n) rfl rfl bi (qP n 2).1 (by unfold maxLen;omega) (by omega) hbz ?_);intro a2 c2 w2 aK hk2 hm2 hh2;obtain⟨⟨e0,e1,e2⟩,HN⟩:=HD.out.s1 kz1 (by simpa only[List.append_assoc] using aK) hk2 hm2 hh2;replace HD:=Lib.hid HN;clear HN aK hk2 hm2 hh2 bi hoz hbz kz1 g0 g1 g2 g3 g4 hGl;go_upto_region 5 with(fail)
   generalize(w2.setCell ⟨P,1,none⟩ (.slice a2 (q.n1+k+1) c2))=wz1 at HD ⊢;clear e0 e1 e2;obtain⟨g0,g1,g2,g3,g4,hGl⟩:=an HD.out.hp;have kz2:New wz1 (wz1.alloc (.cells #[I n,I 0,I 0,I 0,.slice none 0 0] ET)):=(New.refl _).alloc _;have bi:ar (wz1.alloc (.cells #[I n,I 0,I 0,I 0,.slice none 0 0] ET)) (some ⟨wz1.heap.size,0,none⟩) (mE n):=ar.lit _ _ _;have hoz:=(HD.out.r2.keeps kz2 (fun _ _ h=>h)).new;have hbz:B<=(wz1.alloc (.cells #[I n,I 0,I 0,I 0,.slice none 0 0] ET)).heap.size:=Nat.le_trans hB (Nat.le_trans HD.out.ks.size kz2.size);go_wp2_with (at_builtin;refine aR rfl _ _ 23 rfl B ET ie _ 5 56 Tryz.underlying23 hie he0 he1 he2 rfl (by decide) b2 (q.n2+k) d2 (X2++rep k (mE n)) rfl hoz (some ⟨wz1.heap.size,0,none⟩) 1 1 (mE n) rfl rfl bi (qP n 2).2.1 (by unfold maxLen;omega) (by omega) hbz ?_);intro a2 c2 w2 aK hk2 hm2 hh2;obtain⟨⟨e0,e1,e2⟩,HN⟩:=HD.out.s2 kz2 (by simpa only[List.append_assoc] using aK) hk2 hm2 hh2;replace HD:=Lib.hid HN;clear HN aK hk2 hm2 hh2 bi hoz hbz kz2 g0 g1 g2 g3 g4 hGl;go_upto_region 6 with(fail)
   generalize(w2.setCell ⟨P,2,none⟩ (.slice a2 (q.n2+k+1) c2))=wz2 at HD ⊢;clear e0 e1 e2;obtain⟨g0,g1,g2,g3,g4,hGl⟩:=an HD.out.hp;have kz3:New wz2 (wz2.alloc (.cells #[.string ⟨#[]⟩,I n,I 1] PT)):=(New.refl _).alloc _;have bi:ar (wz2.alloc (.cells #[.string ⟨#[]⟩,I n,I 1] PT)) (some ⟨wz2.heap.size,0,none⟩) (mP n 1):=ar.lit _ _ _;have hoz:=(HD.out.r3.keeps kz3 (fun _ _ h=>h)).new;have hbz:B<=(wz2.alloc (.cells #[.string ⟨#[]⟩,I n,I 1] PT)).heap.size:=Nat.le_trans hB (Nat.le_trans HD.out.ks.size kz3.size);go_wp2_with (at_builtin;refine aR rfl _ _ 24 rfl B PT ip _ 3 32 Tryz.underlying24 hip hp0 hp1 hp2 rfl (by decide) b3 (q.n3+k) d3 (X3++rep k (mP n 1)) rfl hoz (some ⟨wz2.heap.size,0,none⟩) 1 1 (mP n 1) rfl rfl bi (qP n 1).2.2 (by unfold maxLen;omega) (by omega) hbz ?_);intro a2 c2 w2 aK hk2 hm2 hh2;obtain⟨⟨e0,e1,e2⟩,HN⟩:=HD.out.s3 kz3 (by simpa only[List.append_assoc] using aK) hk2 hm2 hh2;replace HD:=Lib.hid HN;clear HN aK hk2 hm2 hh2 bi hoz hbz kz3 g0 g1 g2 g3 g4 hGl;go_upto_region 7 with(fail)
   generalize(w2.setCell ⟨P,3,none⟩ (.slice a2 (q.n3+k+1) c2))=wz3 at HD ⊢;clear e0 e1 e2;obtain⟨g0,g1,g2,g3,g4,hGl⟩:=an HD.out.hp;have kz4:New wz3 (wz3.alloc (.cells #[.string ⟨#[]⟩,I n,I 2] PT)):=(New.refl _).alloc _;have bi:ar (wz3.alloc (.cells #[.string ⟨#[]⟩,I n,I 2] PT)) (some ⟨wz3.heap.size,0,none⟩) (mP n 2):=ar.lit _ _ _;have hoz:=(HD.out.r4.keeps kz4 (fun _ _ h=>h)).new;have hbz:B<=(wz3.alloc (.cells #[.string ⟨#[]⟩,I n,I 2] PT)).heap.size:=Nat.le_trans hB (Nat.le_trans HD.out.ks.size kz4.size);go_wp2_with (at_builtin;refine aR rfl _ _ 24 rfl B PT ip _ 3 32 Tryz.underlying24 hip hp0 hp1 hp2 rfl (by decide) b4 (q.n4+k) d4 (X4++rep k (mP n 2)) rfl hoz (some ⟨wz3.heap.size,0,none⟩) 1 1 (mP n 2) rfl rfl bi (qP n 2).2.2 (by unfold maxLen;omega) (by omega) hbz ?_);intro a2 c2 w2 aK hk2 hm2 hh2;obtain⟨⟨e0,e1,e2⟩,HN⟩:=HD.out.s4 kz4 (by simpa only[List.append_assoc] using aK) hk2 hm2 hh2;replace HD:=Lib.hid HN;clear HN aK hk2 hm2 hh2 bi hoz hbz kz4 g0 g1 g2 g3 g4 hGl;go_wp2_with fail;go_roundw
   case rel=>exact⟨k+1,_,_,_,_,_,_,_,_,by omega,by go_num,HD⟩
   case measure=>simp[intOf];omega
  ·have hke:k=16:=by omega
   have hkd:decide (k<16)=false:=decide_eq_false hk1;have hkI:¬(k:Int)<16:=by omega
   subst hke;obtain⟨g0,g1,g2,g3,g4,hGl⟩:=an HD.out.hp;obtain⟨r0,r1,r2,r3,r4,hRl⟩:=an HD.out.hr;have hGf:∀i,wr.frozen? ⟨P+1,i,none⟩=false:=fun i=>unfrozen_of_block HD.out.hr i
   have z0:=hGf 0;have z1:=hGf 1;have z2:=hGf 2;have z3:=hGf 3;have z4:=hGf 4;obtain⟨h9,k9⟩:=aW HD.out.hr (.string q.nm) (.slice b1 (q.n1+16) d1) (.slice b2 (q.n2+16) d2) (.slice b3 (q.n3+16) d3) (.slice b4 (q.n4+16) d4);obtain⟨y0,y1,y2,y3,y4,hYl⟩:=an h9;have hlo:=HD.out.lo;have hne:∀j,q.b j∨(blk b1 j∨blk b2 j∨blk b3 j∨blk b4 j)->¬j=P+1:=fun j hj e=>by
    subst e;have f:∀ {e:TypeId} {sz n c:Nat} {a:Option Addr} {X:List Value},wr.ownsRow B e sz (.slice a n c) n X->26≠e->¬blk a (P+1):=fun ho hne hb=>by
     obtain⟨cur,hc⟩:=aL ho (aV hb);rw[HD.out.hr] at hc;simp at hc;exact hne hc.2
    rcases hj with(hj|hj|hj|hj)|hj|hj|hj|hj
    ·exact f HD.out.r1.old (by decide) hj
    ·exact f HD.out.r2.old (by decide) hj
    ·exact f HD.out.r3.old (by decide) hj
    ·exact f HD.out.r4.old (by decide) hj
    ·exact f HD.out.r1.new (by decide) hj
    ·exact f HD.out.r2.new (by decide) hj
    ·exact f HD.out.r3.new (by decide) hj
    ·exact f HD.out.r4.new (by decide) hj
   have HF:Hid (post (.returned (Q4.v ⟨q.nm,b1,q.n1+16,d1,b2,q.n2+16,d2,b3,q.n3+16,d3,b4,q.n4+16,d4⟩)) (((((wr.setCell ⟨P+1,0,none⟩ (.string q.nm)).setCell ⟨P+1,1,none⟩ (.slice b1 (q.n1+16) d1)).setCell ⟨P+1,2,none⟩ (.slice b2 (q.n2+16) d2)).setCell ⟨P+1,3,none⟩ (.slice b3 (q.n3+16) d3)).setCell ⟨P+1,4,none⟩ (.slice b4 (q.n4+16) d4))):=Lib.hid (by
    rw[HP.out];refine⟨_,_,_,_,_,_,_,_,rfl,G4.keeps ⟨HD.out.r1.old,HD.out.r2.old,HD.out.r3.old,HD.out.r4.old,fun j h1 h2=>HD.out.d j (.inl h1) (.inl h2)⟩ k9 (fun j hj=>hne j (.inl hj)),G4.keeps (q:=⟨q.nm,b1,q.n1+16,d1,b2,q.n2+16,d2,b3,q.n3+16,d3,b4,q.n4+16,d4⟩) ⟨HD.out.r1.new,HD.out.r2.new,HD.out.r3.new,HD.out.r4.new,fun j h1 h2=>HD.out.d j (.inr h1) (.inr h2)⟩ k9 (fun j hj=>hne j (.inr hj)),HD.out.ks.trans k9 (fun j hj hx=>by omega),?_⟩;intro j hj;rcases hj with hj|hj|hj|hj
    ·rcases HD.out.r1.mv j hj with h|h
     ·exact .inl (.inl h)
     ·exact .inr h
    ·rcases HD.out.r2.mv j hj with h|h
     ·exact .inl (.inr (.inl h))
     ·exact .inr h
    ·rcases HD.out.r3.mv j hj with h|h
     ·exact .inl (.inr (.inr (.inl h)))
     ·exact .inr h
    ·rcases HD.out.r4.mv j hj with h|h
     ·exact .inl (.inr (.inr (.inr h)))
     ·exact .inr h)
   clear hGf h9 k9 HD hne;go_wp2_with fail;exact bodyPost_ret (v:= .agg #[.string q.nm,.slice b1 (q.n1+16) d1,.slice b2 (q.n2+16) d2,.slice b3 (q.n3+16) d3,.slice b4 (q.n4+16) d4]) (by simp[results,Tryz.results35,go_sem,y0,y1,y2,y3,y4,hYl]) rfl HF.out
theorem ar.tail {w:World} {g k:Nat} {A R:List Value} (h:ar w (some ⟨g,0,none⟩) (A++R)) (hk:A.length=k):ar w (some ⟨g,k,none⟩) R:=by
 intro i hi;obtain⟨b,off,e,c⟩:=h.at (i:=k+i) (by rw[List.length_append];omega);cases e
 refine⟨g,k,rfl,?_⟩;rw[Nat.zero_add] at c;rw[c,List.getElem_append_right (by omega)];simp[hk,hi]
theorem nJ {w:World} {B e sz n c:Nat} {a:Option Addr} {X:List Value} (h:w.ownsRow B e sz (.slice a n c) n X) (hn:0<n):n<=c:=by
 rcases h.2 with⟨_,h0⟩|⟨g,cap,cur,hv,hb,hg,hnc,_⟩
 ·omega
 ·simp only[Value.slice.injEq] at hv;omega
theorem sR (w:World) (nm nm2:ByteArray) (g1 n1 d1 c1:Nat) (a1:Option Addr) (hd1:n1+16<=d1) (hn1:n1<=1000) (g2 n2 d2 c2:Nat) (a2:Option Addr) (hd2:n2+16<=d2) (hn2:n2<=1000) (g3 n3 d3 c3:Nat) (a3:Option Addr) (hd3:n3+16<=d3) (hn3:n3<=1000) (g4 n4 d4 c4:Nat) (a4:Option Addr) (hd4:n4+16<=d4) (hn4:n4<=1000):
  Calls Tryz.prog 37 #[.agg #[.string nm,.slice (some ⟨g1,0,none⟩) (n1+16) d1,.slice (some ⟨g2,0,none⟩) (n2+16) d2,.slice (some ⟨g3,0,none⟩) (n3+16) d3,.slice (some ⟨g4,0,none⟩) (n4+16) d4],.agg #[.string nm2,.slice a1 n1 c1,.slice a2 n2 c2,.slice a3 n3 c3,.slice a4 n4 c4]] w fun e w'=>e= .returned (.agg #[.string ⟨#[]⟩,.slice (some ⟨g1,n1*3,none⟩) 16 (d1-n1),.slice (some ⟨g2,n2*5,none⟩) 16 (d2-n2),.slice (some ⟨g3,n3*3,none⟩) 16 (d3-n3),.slice (some ⟨g4,n4*3,none⟩) 16 (d4-n4)])∧New w w':=by
 go_enter Tryz.func37,Tryz.ntmps37;go_wp2_with fail;have na:New w (w.alloc (.cells #[.string nm,.slice (some ⟨g1,0,none⟩) (n1+16) d1,.slice (some ⟨g2,0,none⟩) (n2+16) d2,.slice (some ⟨g3,0,none⟩) (n3+16) d3,.slice (some ⟨g4,0,none⟩) (n4+16) d4] 26)):=(New.refl w).alloc _;have ha:=heap_alloc_new w (.cells #[.string nm,.slice (some ⟨g1,0,none⟩) (n1+16) d1,.slice (some ⟨g2,0,none⟩) (n2+16) d2,.slice (some ⟨g3,0,none⟩) (n3+16) d3,.slice (some ⟨g4,0,none⟩) (n4+16) d4] 26);have sa:(w.alloc (.cells #[.string nm,.slice (some ⟨g1,0,none⟩) (n1+16) d1,.slice (some ⟨g2,0,none⟩) (n2+16) d2,.slice (some ⟨g3,0,none⟩) (n3+16) d3,.slice (some ⟨g4,0,none⟩) (n4+16) d4] 26)).heap.size=w.heap.size+1:=aG _ _;generalize(w.alloc (.cells #[.string nm,.slice (some ⟨g1,0,none⟩) (n1+16) d1,.slice (some ⟨g2,0,none⟩) (n2+16) d2,.slice (some ⟨g3,0,none⟩) (n3+16) d3,.slice (some ⟨g4,0,none⟩) (n4+16) d4] 26))=wa at na ha sa ⊢;have nb:New wa (wa.alloc (.cells #[.string nm2,.slice a1 n1 c1,.slice a2 n2 c2,.slice a3 n3 c3,.slice a4 n4 c4] 26)):=(New.refl wa).alloc _;have hb:=heap_alloc_new wa (.cells #[.string nm2,.slice a1 n1 c1,.slice a2 n2 c2,.slice a3 n3 c3,.slice a4 n4 c4] 26);have sb:(wa.alloc (.cells #[.string nm2,.slice a1 n1 c1,.slice a2 n2 c2,.slice a3 n3 c3,.slice a4 n4 c4] 26)).heap.size=w.heap.size+1+1:=by rw[aG,sa]
 rw[sa] at hb;generalize(wa.alloc (.cells #[.string nm2,.slice a1 n1 c1,.slice a2 n2 c2,.slice a3 n3 c3,.slice a4 n4 c4] 26))=wb at nb hb sb ⊢;have nc:New wb (wb.alloc (.cells #[.string ⟨#[]⟩,.slice none 0 0,.slice none 0 0,.slice none 0 0,.slice none 0 0] 26)):=(New.refl wb).alloc _;have hc:=heap_alloc_new wb (.cells #[.string ⟨#[]⟩,.slice none 0 0,.slice none 0 0,.slice none 0 0,.slice none 0 0] 26);rw[sb] at hc;generalize(wb.alloc (.cells #[.string ⟨#[]⟩,.slice none 0 0,.slice none 0 0,.slice none 0 0,.slice none 0 0] 26))=W at nc hc ⊢;have hdr:New W W.drew:=(New.refl W).drew;have hN:=((na.trans nb).trans nc).trans hdr;have HA:=Lib.hid (Keeps.heap ((nb.trans nc).trans hdr) ha (fun h=>h));have HB:=Lib.hid (Keeps.heap (nc.trans hdr) hb (fun h=>h));have HC:=Lib.hid (Keeps.heap hdr hc (fun h=>h));obtain⟨P,hP⟩:∃P,w.heap.size=P:=⟨_,rfl⟩
 rw[hP] at HA HB HC ⊢;obtain⟨-,x1,x2,x3,x4,hxl⟩:=an HA.out;obtain⟨-,y1,y2,y3,y4,hyl⟩:=an HB.out;clear na nb nc ha hb hc sa sb hdr;have hS0:(fun w':World=>w'.cell? ⟨P,1,none⟩=some (.slice (some ⟨g1,0,none⟩) (n1+16) d1)∧w'.cell? ⟨P,2,none⟩=some (.slice (some ⟨g2,0,none⟩) (n2+16) d2)∧w'.cell? ⟨P,3,none⟩=some (.slice (some ⟨g3,0,none⟩) (n3+16) d3)∧w'.cell? ⟨P,4,none⟩=some (.slice (some ⟨g4,0,none⟩) (n4+16) d4)∧w'.cell? ⟨P+1,1,none⟩=some (.slice a1 n1 c1)∧w'.cell? ⟨P+1,2,none⟩=some (.slice a2 n2 c2)∧w'.cell? ⟨P+1,3,none⟩=some (.slice a3 n3 c3)∧w'.cell? ⟨P+1,4,none⟩=some (.slice a4 n4 c4)∧P<w'.heap.size∧P+1<w'.heap.size) W.drew:=⟨x1,x2,x3,x4,y1,y2,y3,y4,hxl,hyl⟩
 have i1b:(n1:Int)<=(n1:Int)+16:=by omega
 have i1d:¬d1=n1:=by omega
 have i2b:(n2:Int)<=(n2:Int)+16:=by omega
 have i2d:¬d2=n2:=by omega
 have i3b:(n3:Int)<=(n3:Int)+16:=by omega
 have i3d:¬d3=n3:=by omega
 have i4b:(n4:Int)<=(n4:Int)+16:=by omega
 have i4d:¬d4=n4:=by omega
 refine aj (fun w':World=>w'.cell? ⟨P,1,none⟩=some (.slice (some ⟨g1,0,none⟩) (n1+16) d1)∧w'.cell? ⟨P,2,none⟩=some (.slice (some ⟨g2,0,none⟩) (n2+16) d2)∧w'.cell? ⟨P,3,none⟩=some (.slice (some ⟨g3,0,none⟩) (n3+16) d3)∧w'.cell? ⟨P,4,none⟩=some (.slice (some ⟨g4,0,none⟩) (n4+16) d4)∧w'.cell? ⟨P+1,1,none⟩=some (.slice a1 n1 c1)∧w'.cell? ⟨P+1,2,none⟩=some (.slice a2 n2 c2)∧w'.cell? ⟨P+1,3,none⟩=some (.slice a3 n3 c3)∧w'.cell? ⟨P+1,4,none⟩=some (.slice a4 n4 c4)∧P<w'.heap.size∧P+1<w'.heap.size) [25] (by kernel_rfl) hS0 ?_;generalize W.drew=WD at hS0 hN HA HB HC ⊢;clear x1 x2 x3 x4 y1 y2 y3 y4 hxl hyl;refine ae 0 hS0 ?_;refine ae 1 hS0 ?_;refine ae 2 hS0 ?_;refine ae 3 hS0 ?_;refine ae 4 hS0 ?_;refine ae 5 hS0 ?_;refine ae 6 hS0 ?_;refine ae 7 hS0 ?_;refine ae 8 hS0 ?_;refine ae 9 hS0 ?_;refine ae 10 hS0 ?_;refine ae 11 hS0 ?_;refine ae 12 hS0 ?_;refine ae 13 hS0 ?_;refine ae 14 hS0 ?_;refine ae 15 hS0 ?_;refine ae 16 hS0 ?_;refine ae 17 hS0 ?_;refine ae 18 hS0 ?_;refine ae 19 hS0 ?_;refine ae 20 hS0 ?_;refine ae 21 hS0 ?_;refine ae 22 hS0 ?_;refine ae 23 hS0 ?_;refine ae 24 hS0 ?_;obtain⟨z0,z1,z2,z3,z4,hzl⟩:=an HC.out;have hGf:∀i,WD.frozen? ⟨P+1+1,i,none⟩=false:=fun i=>unfrozen_of_block HC.out i
 have f0:=hGf 0;have f1:=hGf 1;have f2:=hGf 2;have f3:=hGf 3;have f4:=hGf 4;clear hGf;refine ag 25 ?_;intro K hK;(try simp only[Act.put,sLs])
 go_simp;refine hK _ _ (fun hx=>by cases hx) ?_;clear hK K;refine av (by kernel_rfl) ?_;(try simp only[Act.put,sLs])
 (try simp only[Exit.then])
 obtain⟨h9,k9⟩:=aW HC.out (.string ⟨#[]⟩) (.slice (some ⟨g1,n1*3,none⟩) 16 (d1-n1)) (.slice (some ⟨g2,n2*5,none⟩) 16 (d2-n2)) (.slice (some ⟨g3,n3*3,none⟩) 16 (d3-n3)) (.slice (some ⟨g4,n4*3,none⟩) 16 (d4-n4));obtain⟨w0,w1,w2,w3,w4,hwl⟩:=an h9;have HF:=Lib.hid (New.keeps hN k9 (fun i hi h=>by omega));clear h9 k9 z0 z1 z2 z3 z4 hzl f0 f1 f2 f3 f4;go_wp2_with fail;exact bodyPost_ret (v:= .agg #[.string ⟨#[]⟩,.slice (some ⟨g1,n1*3,none⟩) 16 (d1-n1),.slice (some ⟨g2,n2*5,none⟩) 16 (d2-n2),.slice (some ⟨g3,n3*3,none⟩) 16 (d3-n3),.slice (some ⟨g4,n4*3,none⟩) 16 (d4-n4)]) (by simp[results,Tryz.results37,go_sem,w0,w1,w2,w3,w4,hwl]) rfl ⟨rfl,HF.out⟩
end Go.Proofs.YtnedmonlofbahaaGreatDoor
