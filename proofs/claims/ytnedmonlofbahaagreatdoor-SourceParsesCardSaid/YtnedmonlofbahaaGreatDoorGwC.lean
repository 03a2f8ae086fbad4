/-
  GrK, GrL, GrM, GrN, GrO, GrQ: what is wanted of them.
-/
import Derived.Test.YtnedmonlofbahaaGreatDoorGwB
set_option maxRecDepth 100000
set_option maxHeartbeats 16000000
namespace Go.Proofs.YtnedmonlofbahaaGreatDoor
open Go Go.RowKit Go.Joins
set_option linter.all false
def cn (g:Gr) (n:GAct->Nat) (T:Int->Int->Bool):List (List Bool):=g.acts.mapIdx fun a x=>(List.range (n x)).map fun(p:Nat)=>T a p
theorem j9 (g:Gr) (n:GAct->Nat) (T:Int->Int->Bool):(cn g n T).length=g.acts.length:=by simp[cn]
theorem jf (g:Gr) (n:GAct->Nat) (T:Int->Int->Bool) {a:Nat} (ha:a<g.acts.length):(cn g n T)[a]? =some ((List.range (n g.acts[a])).map fun(p:Nat)=>T a p):=by
 simp[cn,ha]
theorem oX {g:Gr} {n:GAct->Nat} {T:Int->Int->Bool} {L:List (Nat×List Bool)} (h:L.map (·.2)=cn g n T) {a:Nat} (ha:a<g.acts.length):
  (L.getD a (0,[])).2=(List.range (n g.acts[a])).map fun(p:Nat)=>T a p:=by
 have h1:=jf g n T ha;rw[<-h,List.getElem?_map] at h1;rw[List.getD_eq_getElem?_getD];cases hL:L[a]? with
 |none=>rw[hL] at h1;simp at h1
 |some r=>rw[hL] at h1;simpa using h1
theorem fW {g:Gr} {n:GAct->Nat} {T:Int->Int->Bool} {L:List (Nat×List Bool)} (h:L.map (·.2)=cn g n T):L.length=g.acts.length:=by
 have:=congrArg List.length h
 rwa [List.length_map,j9] at this
theorem jF {g:Gr} {n:GAct->Nat} {T:Int->Int->Bool} {L:List (Nat×List Bool)} (h:L.map (·.2)=cn g n T) (x p:Int):bu L x p=dp g n (T x p) x p:=by
 unfold bu dp;rw[fW h];by_cases hx:0<=x∧x<g.acts.length
 ·rw[if_pos hx,dif_pos hx];obtain⟨a,rfl⟩:=Int.eq_ofNat_of_zero_le hx.1;have ha:a<g.acts.length:=by omega
  simp only[Int.toNat_natCast];simp only[oX h ha,List.length_map,List.length_range];by_cases hp:0<=p∧p<(n g.acts[a]:Int)
  ·rw[if_pos hp,if_pos hp];obtain⟨q,rfl⟩:=Int.eq_ofNat_of_zero_le hp.1;have hq:q<n g.acts[a]:=by omega
   simp[List.getD_eq_getElem?_getD,hq]
  ·rw[if_neg hp,if_neg hp]
 ·rw[if_neg hx,dif_neg hx]
theorem uu {g:Gr} {n:GAct->Nat} {T:Int->Int->Bool} {L:List (Nat×List Bool)} (h:L.map (·.2)=cn g n T) {x p:Int} (hE:bu L x p=0):
  (dF L x p).map (·.2)=cn g n (fun a q=>T a q||decide (x=a∧p=q)):=by
 have hb:(0<=x∧x<L.length)∧(0<=p∧p<(L.getD x.toNat (0,[])).2.length):=by
  unfold bu at hE;split at hE
  ·split at hE
   ·exact⟨‹_›,‹_›⟩
   ·cases hE
  ·cases hE
 obtain⟨⟨hx0,hx1⟩,hp0,hp1⟩:=hb;obtain⟨a,rfl⟩:=Int.eq_ofNat_of_zero_le hx0;obtain⟨q,rfl⟩:=Int.eq_ofNat_of_zero_le hp0;unfold dF;rw[if_pos hE];simp only[Int.toNat_natCast] at*;have hla:=fW h;have ha:a<g.acts.length:=by omega
 have hr:=oX h ha;rw[hr] at hp1;simp only[List.length_map,List.length_range] at hp1;apply List.ext_getElem?;intro i;rw[List.getElem?_map,List.getElem?_set];by_cases hi:a=i
 ·subst hi;rw[if_pos rfl,if_pos (by omega)];rw[jf g n _ ha];simp only[Option.map_some,Option.some.injEq,hr];apply List.ext_getElem?;intro j;rw[List.getElem?_set];by_cases hj:q=j
  ·subst hj;simp[show q<n g.acts[a] by omega]
  ·rw[if_neg hj];by_cases hjn:j<n g.acts[a]
   ·have:¬((q:Int)=(j:Int)):=by omega
    simp[hjn,this]
   ·simp[hjn]
 ·rw[if_neg hi];by_cases hil:i<g.acts.length
  ·rw[jf g n _ hil];have h1:=jf g n T hil;rw[<-h,List.getElem?_map] at h1;rw[h1];have:¬((a:Int)=(i:Int)):=by omega
   simp[this]
  ·have h1:(cn g n (fun a' q'=>T a' q'||decide ((a:Int)=a'∧(q:Int)=q')))[i]? =none:=by rw[List.getElem?_eq_none_iff,j9];omega
   rw[h1,List.getElem?_eq_none (by omega)];rfl
theorem o7 {g:Gr} {n:GAct->Nat} {T U:Int->Int->Bool} (h:∀a p,T a p=U a p):cn g n T=cn g n U:=by
 have:T=U:=funext fun a=>funext fun p=>h a p
 rw[this]
theorem qi (g:Gr) (n:GAct->Nat):cn g n (fun _ _=>false)=g.acts.map fun x=>List.replicate (n x) false:=by
 apply List.ext_getElem?;intro i;by_cases hi:i<g.acts.length
 ·rw[jf g n _ hi];simp[hi,List.map_const']
 ·rw[List.getElem?_eq_none (by rw[j9];omega),List.getElem?_eq_none (by simp;omega)]
theorem tV (g:Gr) (a p:Int):aZ g 0 0 a p=false:=by simp[aZ]
theorem vX (g:Gr) (a p:Int):bZ g 0 0 a p=false:=by simp[bZ]
theorem tU (g:Gr) {k:Nat} (hk:k<g.edges.length) (a p:Int):aZ g (k+1) 0 a p=(aZ g k 0 a p||decide (g.edges[k].f=a∧g.edges[k].fp=p)):=by
 unfold aZ;rw[List.take_succ_eq_append_getElem hk,List.any_append];simp
theorem vW (g:Gr) {k:Nat} (hk:k<g.edges.length) (a p:Int):bZ g (k+1) 0 a p=(bZ g k 0 a p||decide (g.edges[k].t=a∧g.edges[k].tp=p)):=by
 unfold bZ;rw[List.take_succ_eq_append_getElem hk,List.any_append];simp
theorem wx (g:Gr) (e:Nat) {k:Nat} (hk:k<g.outs.length) (a p:Int):aZ g e (k+1) a p=(aZ g e k a p||decide (g.outs[k].ac=a∧g.outs[k].po=p)):=by
 unfold aZ;rw[List.take_succ_eq_append_getElem hk,List.any_append];simp[Bool.or_assoc]
theorem Ak (g:Gr) (e:Nat) {k:Nat} (hk:k<g.ins.length) (a p:Int):bZ g e (k+1) a p=(bZ g e k a p||decide (g.ins[k].ac=a∧g.ins[k].po=p)):=by
 unfold bZ;rw[List.take_succ_eq_append_getElem hk,List.any_append];simp[Bool.or_assoc]
theorem wj (g:Gr) {k:Nat} (hk:k<g.acts.length):aw g (k+1) 0 0=aw g k 0 0++[g.acts[k].name]:=by
 unfold aw;simp only[List.take_succ_eq_append_getElem hk,List.map_append,List.map_cons,List.map_nil,List.take_zero,List.append_nil,List.append_assoc]
theorem yW (g:Gr) (a:Nat) {k:Nat} (hk:k<g.ins.length):aw g a (k+1) 0=aw g a k 0++[g.ins[k].name]:=by
 unfold aw;simp only[List.take_succ_eq_append_getElem hk,List.map_append,List.map_cons,List.map_nil,List.take_zero,List.append_nil,List.append_assoc]
theorem wk (g:Gr) (a i:Nat) {k:Nat} (hk:k<g.outs.length):aw g a i (k+1)=aw g a i k++[g.outs[k].name]:=by
 unfold aw;simp only[List.take_succ_eq_append_getElem hk,List.map_append,List.map_cons,List.map_nil,List.take_zero,List.append_nil,List.append_assoc]
theorem mF (g:Gr) (a i o:Nat):(aw g a i o).length<=a+i+o:=by
 unfold aw;simp only[List.length_append,List.length_map,List.length_take];omega
theorem gx {α:Type} {E:Nat->α->Int×Int} {l:List α} {k:Nat} (hk:k<l.length) (hb:∀j (hj:j<l.length),j<k->(E j l[j]).1=0) (hh:(E k l[k]).1≠0):aD E 0 l=some (k,E k l[k]):=by
 have h:=oq (E:=E) l 0 k hk (fun j hj hjk=>by simpa using hb j hj hjk) (by simpa using hh);simpa using h
theorem ig {α:Type} {E:Nat->α->Int×Int} {l:List α} (hb:∀j (hj:j<l.length),j<l.length->(E j l[j]).1=0):aD E 0 l=none:=
 eI l 0 (fun j hj=>by simpa using hb j hj hj)
def lc (e k i d:Int):Value:= .tuple #[I e,.agg #[.int .u8 k,I i,I d]]
def cW (r:Option (Nat×Int×Int)) (kind:Int) (ok:World->Prop) (e:Ending) (w':World):Prop:=match r with
 |some (i,x,d)=>e= .returned (lc x kind i d)
 |none=>e= .returned (lc 0 0 0 0)∧ok w'
theorem aJ {w:World} {B:Nat} {a b c:Value} (h:w.heap[B]? =some (.cells #[a,b,c] 85 (0,0))):
  (w.cell? ⟨B,0,none⟩=some a∧w.cell? ⟨B,1,none⟩=some b∧w.cell? ⟨B,2,none⟩=some c)∧(w.frozen? ⟨B,0,none⟩=false∧w.frozen? ⟨B,1,none⟩=false∧w.frozen? ⟨B,2,none⟩=false)∧B<w.heap.size:=by
 refine⟨⟨?_,?_,?_⟩,⟨unfrozen_of_block h 0,unfrozen_of_block h 1,unfrozen_of_block h 2⟩,(Array.getElem?_eq_some_iff.1 h).1⟩;all_goals rw[cell_of_block h];rfl
def e7 (g:Gr):Int×Int×Int×Int:=if aQ g.name=false then(82,0,0,0) else if g.acts.length=0 then(80,0,0,0) else iG g
def kf (f:Int×Int×Int×Int):Value:=lc f.1 f.2.1 f.2.2.1 f.2.2.2
theorem tq (g:Gr):(aQ g.name=false∧e7 g=(82,0,0,0))∨(aQ g.name=true∧((((g.acts.length:Int)==0)=true∧e7 g=(80,0,0,0))∨(((g.acts.length:Int)==0)=false∧((decide ((32:Int)<(g.acts.length:Int))=true∧e7 g=(81,1,32,0))∨(decide ((32:Int)<(g.acts.length:Int))=false∧((decide ((96:Int)<(g.edges.length:Int))=true∧e7 g=(81,2,96,0))∨(decide ((96:Int)<(g.edges.length:Int))=false∧((decide ((16:Int)<(g.ins.length:Int))=true∧e7 g=(81,3,16,0))∨(decide ((16:Int)<(g.ins.length:Int))=false∧((decide ((16:Int)<(g.outs.length:Int))=true∧e7 g=(81,4,16,0))∨(decide ((16:Int)<(g.outs.length:Int))=false∧e7 g=(0,0,0,0)))))))))))):=by
 unfold e7 iG;cases aQ g.name with
 |false=>exact .inl ⟨rfl,rfl⟩
 |true=>
  refine .inr ⟨rfl,?_⟩;rw[if_neg (by simp)];by_cases h0:g.acts.length=0
  ·exact .inl ⟨by simp[h0],if_pos h0⟩
  rw[if_neg h0];refine .inr ⟨by rw[beq_eq_false_iff_ne];omega,?_⟩;by_cases h1:32<g.acts.length
  ·exact .inl ⟨decide_eq_true (by omega),if_pos h1⟩
  rw[if_neg h1];refine .inr ⟨decide_eq_false (by omega),?_⟩;by_cases h2:96<g.edges.length
  ·exact .inl ⟨decide_eq_true (by omega),if_pos h2⟩
  rw[if_neg h2];refine .inr ⟨decide_eq_false (by omega),?_⟩;by_cases h3:16<g.ins.length
  ·exact .inl ⟨decide_eq_true (by omega),if_pos h3⟩
  rw[if_neg h3];refine .inr ⟨decide_eq_false (by omega),?_⟩;by_cases h4:16<g.outs.length
  ·exact .inl ⟨decide_eq_true (by omega),if_pos h4⟩
  rw[if_neg h4];refine .inr ⟨decide_eq_false (by omega),?_⟩;rfl
theorem vx (w:World) (C M:Nat) (g:Gr) (ia:Option Addr) (ni ic:Nat) (oa:Option Addr) (no oc:Nat) (h:w.heap[C]? =some (.cells (sY g M ia ni ic oa no oc) 149 (0,0))) (hl:GLen g):
  Calls Tryz.prog 83 #[.pointer (some ⟨C,0,none⟩)] w fun e w'=>e= .returned (kf (e7 g))∧New w w':=by
 obtain⟨⟨c0,c1,c2,c3,c4,_,_,_⟩,_,hCl⟩:=dk h;have HN:∀W,Calls Tryz.prog 71 #[.string g.name] W fun e w'=>e= .returned (.bool (aQ g.name))∧New W w':=fun W=>f9 W _ hl.n
 have HC:=Lib.hid (tq g);have hla:=hl.a;have hle:=hl.e;have hli:=hl.i;have hlo:=hl.o;clear hl h;obtain⟨F,hF⟩:∃F,e7 g=F:=⟨_,rfl⟩
 rw[hF] at HC ⊢;clear hF;obtain⟨ay,gaa,gac,ak,gea,gec,ah,gia,gic,aC,goa,goc,au⟩:=g;simp only at hla hle hli hlo HN HC c0 c1 c2 c3 c4;go_enter Tryz.func83,Tryz.ntmps83;go_wp2_with fail;have hs0:(w.alloc (.cells #[.int .u8 0,I 0,I 0] 85)).heap.size=w.heap.size+1:=aG _ _;have k0:New w (w.alloc (.cells #[.int .u8 0,I 0,I 0] 85)):=(New.refl w).alloc _;have hbx:(w.alloc (.cells #[.int .u8 0,I 0,I 0] 85)).heap[w.heap.size]? =some (.cells #[.int .u8 0,I 0,I 0] 85 (0,0)):=heap_alloc_new w _;generalize(w.alloc (.cells #[.int .u8 0,I 0,I 0] 85))=w0 at k0 hbx hs0 ⊢;have HB:=Lib.hid hbx;clear hbx;have k1:New w0 (w0.alloc (.cells #[.string ay,.slice gaa ak.length gac,.slice gea ah.length gec,.slice gia aC.length gic,.slice goa au.length goc] 26)):=(New.refl w0).alloc _;have hby:(w0.alloc (.cells #[.string ay,.slice gaa ak.length gac,.slice gea ah.length gec,.slice gia aC.length gic,.slice goa au.length goc] 26)).heap[w0.heap.size]? =some (.cells #[.string ay,.slice gaa ak.length gac,.slice gea ah.length gec,.slice gia aC.length gic,.slice goa au.length goc] 26 (0,0)):=heap_alloc_new w0 _;rw[hs0] at hby;generalize(w0.alloc (.cells #[.string ay,.slice gaa ak.length gac,.slice gea ah.length gec,.slice gia aC.length gic,.slice goa au.length goc] 26))=w1 at k1 hby ⊢;have x0:w1.cell? ⟨w.heap.size+1,0,none⟩=some (.string ay):=by rw[cell_of_block hby 0];simp
 have x1:w1.cell? ⟨w.heap.size+1,1,none⟩=some (.slice gaa ak.length gac):=by rw[cell_of_block hby 1];simp
 have x2:w1.cell? ⟨w.heap.size+1,2,none⟩=some (.slice gea ah.length gec):=by rw[cell_of_block hby 2];simp
 have x3:w1.cell? ⟨w.heap.size+1,3,none⟩=some (.slice gia aC.length gic):=by rw[cell_of_block hby 3];simp
 have x4:w1.cell? ⟨w.heap.size+1,4,none⟩=some (.slice goa au.length goc):=by rw[cell_of_block hby 4];simp
 clear hby;replace HB:=Lib.hid (Keeps.heap k1 HB.out (fun h=>h));replace k0:=k0.trans k1;clear k1 hs0 c0 c1 c2 c3 c4;refine(HN w1).mono ?_;rintro e w2 ⟨rfl,k2⟩;replace x0:=k2.cell x0;replace x1:=k2.cell x1;replace x2:=k2.cell x2;replace x3:=k2.cell x3;replace x4:=k2.cell x4;replace HB:=Lib.hid (Keeps.heap k2 HB.out (fun h=>h));replace k0:=k0.trans k2;clear k2;obtain⟨⟨r0,r1,r2⟩,⟨f0,f1,f2⟩,hBB⟩:=aJ HB.out;rcases HC.out with⟨d0,d9⟩|⟨d0,⟨d1,d9⟩|⟨d1,⟨d2,d9⟩|⟨d2,⟨d3,d9⟩|⟨d3,⟨d4,d9⟩|⟨d4,⟨d5,d9⟩|⟨d5,d9⟩⟩⟩⟩⟩⟩
 all_goals
  subst d9;rw[d0];go_wp2_with fail;exact bodyPost_ret (v:=_) (by simp[results,Tryz.results83,go_sem,r0,r1,r2,f0,f1,f2,hBB];rfl) rfl ⟨rfl,((k0.setCell (by simp) _).setCell (by simp) _).setCell (by simp) _⟩
theorem tK (n:Nat):madeCells (Value.bool false).cells (n*1)=(List.replicate n (Value.bool false)).toArray:=by
 apply Array.ext
 ·simp[size_madeCells]
 ·intro i h1 h2;simp[madeCells,Value.cells,Nat.mod_one]
theorem o9 {w:World} {ops:Array Oper} {o:Oper} {a:Act} {K:Act->World->Prop} {Q:Exit->Act->World->Prop} {E:Prop} {dec:Decidable (Region.wanted o (yielded ops a.tmps)=true)} (hgd:o.guard=none) (l c:Operand) (ho:o.op=Op.makeSlice 200 l c)
  (n:Nat) (hl:a.eval l=I n) (hc:a.eval c=I n) (hn:n<=1000)
  (h:K (a.put o.dst (.slice (some ⟨w.heap.size,0,none⟩) n n)) (w.alloc (.cells (List.replicate n (Value.bool false)).toArray 4))):
  @ite Prop (Region.wanted o (yielded ops a.tmps)=true) dec (Oper.wp Tryz.prog o a w K Q) E:=by
 have hw:Region.wanted o (yielded ops a.tmps)=true:=by simp[Region.wanted,hgd]
 rw[if_pos hw];obtain⟨i,hi,hz0,hz1,hz2⟩:=info_parts (show(Tryz.prog.info? 4).map (fun i=>(i.zero,i.size,i.bytes))=some (some (.bool false),1,1) by kernel_rfl);have hr:=run_make (P:=Tryz.prog) (w:=w) 200 4 i (.bool false) Tryz.underlying200 hi hz0 .i64 .i64 (n:Int) (n:Int) (by omega) (Int.le_refl _) (by rw[hz2];omega) (by omega);simp only[Int.toNat_natCast,hz1,tK] at hr;unfold Oper.wp execOp;simp only[ho,Sem.run_bind,Sem.run_pure,Result.andThen_ok,hl,hc,hr];exact h
theorem vk {w:World} {C:Nat} {a0 a1 a2:Value} (h:w.heap[C]? =some (.cells #[a0,a1,a2] 63 (0,0))):
  w.cell? ⟨C,0,none⟩=some a0∧w.cell? ⟨C,1,none⟩=some a1∧w.cell? ⟨C,2,none⟩=some a2∧C<w.heap.size:=by
 refine⟨?_,?_,?_,(Array.getElem?_eq_some_iff.1 h).1⟩;all_goals rw[cell_of_block h];rfl
theorem Al:(Tryz.prog.info? 200).map (fun i=>(i.zero,i.size,i.bytes))=some (some (.slice none 0 0),1,24):=by kernel_rfl
theorem cX {w:World} {a a':Option Addr} (h:dS w a a') {k:Nat} (hk:blk a' k):blk a k∨w.heap.size<=k:=by
 rcases h with rfl|⟨g,rfl,hg⟩
 ·exact .inl hk
 ·obtain⟨y,hy,rfl⟩:=hk;cases hy;exact .inr hg
theorem Chk.addI {w w1 w2:World} {B C M:Nat} {g:Gr} {ns:List ByteArray} {ia:Option Addr} {ic:Nat} {IL:List (Nat×List Bool)} {oa:Option Addr} {oc:Nat} {OL:List (Nat×List Bool)} (h:Chk w B C M g ns ia ic IL oa oc OL) (hB:B<=w.heap.size) {n R c':Nat} {a':Option Addr} (k1:New w w1) (hR:w1.heap[R]? =some (.cells (List.replicate n (Value.bool false)).toArray 4 (0,0))) (hRn:w.heap.size<=R)
  (aK:w2.ownsRow B 200 1 (.slice a' (IL.length+1) c') (IL.length+1) (IL.map gm++[.slice (some ⟨R,0,none⟩) n n])) (hk:Keeps (Go.Proofs.YtnedmonlofbahaaGreatDoor.blk ia) w1 w2) (hm:dS w1 ia a'):
  (w2.cell? ⟨C,6,none⟩=some (.slice ia IL.length ic)∧w2.frozen? ⟨C,6,none⟩=false∧C<w2.heap.size)∧Chk (w2.setCell ⟨C,6,none⟩ (.slice a' (IL.length+1) c')) B C M g ns a' c' (IL++[(R,List.replicate n false)]) oa oc OL∧KB B w (w2.setCell ⟨C,6,none⟩ (.slice a' (IL.length+1) c')):=by
 have h1:=h.new k1;have cw:∀i,Go.Proofs.YtnedmonlofbahaaGreatDoor.blk ia i->B<=i∧∃cur,w1.heap[i]? =some (.cells cur 200 (0,0)):=fun i hi=>⟨(ai h1.gi.tab hi).1,aL h1.gi.tab (aV hi)⟩
 have hnb:∀ {b:Nat} {cs:Array Value} {t:TypeId} {fr:Nat×Nat},w1.heap[b]? =some (.cells cs t fr)->t≠200->¬Go.Proofs.YtnedmonlofbahaaGreatDoor.blk ia b:=fun hb hne hx=>by
  obtain⟨_,cur,hc⟩:=cw _ hx;rw[hb] at hc;cases hc;exact hne rfl
 have hC2:=hk.heap h1.blk (hnb h1.blk (by decide));have hC3:=block_setCell (i:=6) hC2 (.slice a' (IL.length+1) c');have hks:Keeps (fun k=>k=C) w2 (w2.setCell ⟨C,6,none⟩ (.slice a' (IL.length+1) c')):=Keeps.setCell w2 _ _ rfl;have hnC:∀ {b:Nat} {cs:Array Value} {t:TypeId} {fr:Nat×Nat},w2.heap[b]? =some (.cells cs t fr)->t≠149->¬b=C:=by
  rintro b cs t fr hb hne rfl;rw[hC2] at hb;cases hb;exact hne rfl
 obtain⟨es,iW,hM⟩:=h1.nm.block;have hM2:=hk.heap hM (fun hx=>by
  obtain⟨_,cur,hc⟩:=cw _ hx;rw[hM] at hc;cases hc)
 have hmv:∀k,Go.Proofs.YtnedmonlofbahaaGreatDoor.blk a' k->Go.Proofs.YtnedmonlofbahaaGreatDoor.blk ia k∨w1.heap.size<=k:=fun k hb=>cX hm hb
 refine⟨⟨?_,unfrozen_of_block hC2 6,(Array.getElem?_eq_some_iff.1 hC2).1⟩,⟨?_,h.loC,h.loM,?_,?_,?_,?_,?_⟩,?_⟩
 ·rw[cell_of_block hC2 6];rfl
 ·rw[hC3];simp
 ·refine(h1.nm.keeps hk (fun hx=>?_)).keeps hks (fun hx=>?_)
  ·obtain⟨_,cur,hc⟩:=cw _ hx;rw[hM] at hc;cases hc
  ·subst hx;rw[hM2] at hC2;cases hC2
 ·refine⟨?_,fun r hr=>?_,fun r hr=>?_,?_⟩
  ·have h0:=hks.owns aK (fun i hi e=>by
    obtain⟨cur,hc⟩:=aL aK hi;exact hnC hc (by decide) e)
   simpa[gm] using h0
  ·rcases List.mem_append.1 hr with hr|hr
   ·have h3:=hk.heap (h1.gi.row r hr) (hnb (h1.gi.row r hr) (by decide));exact hks.heap h3 (hnC h3 (by decide))
   ·rw[List.mem_singleton.1 hr];have h3:=hk.heap hR (hnb hR (by decide));have h4:=hks.heap h3 (hnC h3 (by decide));simpa using h4
  ·rcases List.mem_append.1 hr with hr|hr
   ·exact h.gi.lo r hr
   ·rw[List.mem_singleton.1 hr];exact Nat.le_trans hB hRn
  ·rw[List.map_append,List.nodup_append];refine⟨h.gi.nd,by simp,fun x hx y hy=>?_⟩;obtain⟨r,hr,rfl⟩:=List.mem_map.1 hx;obtain rfl:y=R:=by simpa using hy
   have:=(Array.getElem?_eq_some_iff.1 (h.gi.row r hr)).1;omega
 ·refine(h1.go.other hk (fun i hi=>?_) (fun r hr=>hnb (h1.go.row r hr) (by decide))).other hks (fun i hi=>?_) (fun r hr=>?_)
  ·intro hx;exact h.ta i hx hi
  ·obtain⟨cur,hc⟩:=aL h1.go.tab (aV hi);have h3:=hk.heap hc (fun hx=>h.ta i hx hi);exact hnC h3 (by decide)
  ·have h3:=hk.heap (h1.go.row r hr) (hnb (h1.go.row r hr) (by decide));exact hnC h3 (by decide)
 ·intro k hk1 hk2;rcases hmv k hk1 with hx|hx
  ·exact h.ta k hx hk2
  ·have:=(ai h.go.tab hk2).2;have:=k1.size;omega
 ·intro r hr r' hr';rcases List.mem_append.1 hr with hr|hr
  ·exact h.ro r hr r' hr'
  ·rw[List.mem_singleton.1 hr];have:=(Array.getElem?_eq_some_iff.1 (h.go.row r' hr')).1;simp only;omega
 ·refine((KXg.of_new k1).trans (Keeps.mono hk (fun i _ hi=>?_))).trans (KXg.set hC2 h.loC rfl _);obtain⟨h5,cur,h6⟩:=cw i hi;exact⟨h5,_,h6,rfl⟩
theorem Chk.addO {w w1 w2:World} {B C M:Nat} {g:Gr} {ns:List ByteArray} {ia:Option Addr} {ic:Nat} {IL:List (Nat×List Bool)} {oa:Option Addr} {oc:Nat} {OL:List (Nat×List Bool)} (h:Chk w B C M g ns ia ic IL oa oc OL) (hB:B<=w.heap.size) {n R c':Nat} {a':Option Addr} (k1:New w w1) (hR:w1.heap[R]? =some (.cells (List.replicate n (Value.bool false)).toArray 4 (0,0))) (hRn:w.heap.size<=R)
  (aK:w2.ownsRow B 200 1 (.slice a' (OL.length+1) c') (OL.length+1) (OL.map gm++[.slice (some ⟨R,0,none⟩) n n])) (hk:Keeps (Go.Proofs.YtnedmonlofbahaaGreatDoor.blk oa) w1 w2) (hm:dS w1 oa a'):
  (w2.cell? ⟨C,7,none⟩=some (.slice oa OL.length oc)∧w2.frozen? ⟨C,7,none⟩=false∧C<w2.heap.size)∧Chk (w2.setCell ⟨C,7,none⟩ (.slice a' (OL.length+1) c')) B C M g ns ia ic IL a' c' (OL++[(R,List.replicate n false)])∧KB B w (w2.setCell ⟨C,7,none⟩ (.slice a' (OL.length+1) c')):=by
 have h1:=h.new k1;have cw:∀i,Go.Proofs.YtnedmonlofbahaaGreatDoor.blk oa i->B<=i∧∃cur,w1.heap[i]? =some (.cells cur 200 (0,0)):=fun i hi=>⟨(ai h1.go.tab hi).1,aL h1.go.tab (aV hi)⟩
 have hnb:∀ {b:Nat} {cs:Array Value} {t:TypeId} {fr:Nat×Nat},w1.heap[b]? =some (.cells cs t fr)->t≠200->¬Go.Proofs.YtnedmonlofbahaaGreatDoor.blk oa b:=fun hb hne hx=>by
  obtain⟨_,cur,hc⟩:=cw _ hx;rw[hb] at hc;cases hc;exact hne rfl
 have hC2:=hk.heap h1.blk (hnb h1.blk (by decide));have hC3:=block_setCell (i:=7) hC2 (.slice a' (OL.length+1) c');have hks:Keeps (fun k=>k=C) w2 (w2.setCell ⟨C,7,none⟩ (.slice a' (OL.length+1) c')):=Keeps.setCell w2 _ _ rfl;have hnC:∀ {b:Nat} {cs:Array Value} {t:TypeId} {fr:Nat×Nat},w2.heap[b]? =some (.cells cs t fr)->t≠149->¬b=C:=by
  rintro b cs t fr hb hne rfl;rw[hC2] at hb;cases hb;exact hne rfl
 obtain⟨es,iW,hM⟩:=h1.nm.block;have hM2:=hk.heap hM (fun hx=>by
  obtain⟨_,cur,hc⟩:=cw _ hx;rw[hM] at hc;cases hc)
 have hmv:∀k,Go.Proofs.YtnedmonlofbahaaGreatDoor.blk a' k->Go.Proofs.YtnedmonlofbahaaGreatDoor.blk oa k∨w1.heap.size<=k:=fun k hb=>cX hm hb
 refine⟨⟨?_,unfrozen_of_block hC2 7,(Array.getElem?_eq_some_iff.1 hC2).1⟩,⟨?_,h.loC,h.loM,?_,?_,?_,?_,?_⟩,?_⟩
 ·rw[cell_of_block hC2 7];rfl
 ·rw[hC3];simp
 ·refine(h1.nm.keeps hk (fun hx=>?_)).keeps hks (fun hx=>?_)
  ·obtain⟨_,cur,hc⟩:=cw _ hx;rw[hM] at hc;cases hc
  ·subst hx;rw[hM2] at hC2;cases hC2
 ·refine(h1.gi.other hk (fun i hi=>?_) (fun r hr=>hnb (h1.gi.row r hr) (by decide))).other hks (fun i hi=>?_) (fun r hr=>?_)
  ·intro hx;exact h.ta i hi hx
  ·obtain⟨cur,hc⟩:=aL h1.gi.tab (aV hi);have h3:=hk.heap hc (fun hx=>h.ta i hi hx);exact hnC h3 (by decide)
  ·have h3:=hk.heap (h1.gi.row r hr) (hnb (h1.gi.row r hr) (by decide));exact hnC h3 (by decide)
 ·refine⟨?_,fun r hr=>?_,fun r hr=>?_,?_⟩
  ·have h0:=hks.owns aK (fun i hi e=>by
    obtain⟨cur,hc⟩:=aL aK hi;exact hnC hc (by decide) e)
   simpa[gm] using h0
  ·rcases List.mem_append.1 hr with hr|hr
   ·have h3:=hk.heap (h1.go.row r hr) (hnb (h1.go.row r hr) (by decide));exact hks.heap h3 (hnC h3 (by decide))
   ·rw[List.mem_singleton.1 hr];have h3:=hk.heap hR (hnb hR (by decide));have h4:=hks.heap h3 (hnC h3 (by decide));simpa using h4
  ·rcases List.mem_append.1 hr with hr|hr
   ·exact h.go.lo r hr
   ·rw[List.mem_singleton.1 hr];exact Nat.le_trans hB hRn
  ·rw[List.map_append,List.nodup_append];refine⟨h.go.nd,by simp,fun x hx y hy=>?_⟩;obtain⟨r,hr,rfl⟩:=List.mem_map.1 hx;obtain rfl:y=R:=by simpa using hy
   have:=(Array.getElem?_eq_some_iff.1 (h.go.row r hr)).1;omega
 ·intro k hk1 hk2;rcases hmv k hk2 with hx|hx
  ·exact h.ta k hk1 hx
  ·have:=(ai h.gi.tab hk1).2;have:=k1.size;omega
 ·intro r hr r' hr';rcases List.mem_append.1 hr' with hr'|hr'
  ·exact h.ro r hr r' hr'
  ·rw[List.mem_singleton.1 hr'];have:=(Array.getElem?_eq_some_iff.1 (h.gi.row r hr)).1;simp only;omega
 ·refine((KXg.of_new k1).trans (Keeps.mono hk (fun i _ hi=>?_))).trans (KXg.set hC2 h.loC rfl _);obtain⟨h5,cur,h6⟩:=cw i hi;exact⟨h5,_,h6,rfl⟩
theorem Chk.other {S:Nat->Prop} {w w':World} {B C M:Nat} {g:Gr} {ns:List ByteArray} {ia:Option Addr} {ic:Nat} {IL:List (Nat×List Bool)} {oa:Option Addr} {oc:Nat} {OL:List (Nat×List Bool)} (h:Chk w B C M g ns ia ic IL oa oc OL)
  (k:Keeps S w w') (hS:∀i,S i->∃o,w.heap[i]? =some o∧xH o=false):Chk w' B C M g ns ia ic IL oa oc OL:=by
 have hn:∀ {i:Nat} {o:Obj},w.heap[i]? =some o->xH o=true->¬S i:=fun hi ho hs=>by
  obtain⟨o',h1,h2⟩:=hS _ hs;rw[hi] at h1;cases h1;rw[ho] at h2;cases h2
 obtain⟨es,iW,hM⟩:=h.nm.block;refine⟨k.heap h.blk (hn h.blk rfl),h.loC,h.loM,h.nm.keeps k (hn hM rfl),h.gi.other k (fun i hi=>?_) (fun r hr=>hn (h.gi.row r hr) rfl),h.go.other k (fun i hi=>?_) (fun r hr=>hn (h.go.row r hr) rfl),h.ta,h.ro⟩
 ·obtain⟨cur,hc⟩:=aL h.gi.tab (aV hi);exact hn hc rfl
 ·obtain⟨cur,hc⟩:=aL h.go.tab (aV hi);exact hn hc rfl
theorem KXg.setCell {pk:Obj->Bool} {B:Nat} {w w':World} (h:KXg pk B w w') {p:Addr} (hp:w.heap.size<=p.block) (v:Value):KXg pk B w (w'.setCell p v):=
 Keeps.trans h (Keeps.setCell (S:=fun k=>k=p.block) w' p v rfl) (fun i hi e=>by omega)
theorem Chk.spot {w:World} {B C M:Nat} {g:Gr} {ns:List ByteArray} {ia:Option Addr} {ic:Nat} {IL:List (Nat×List Bool)} {oa:Option Addr} {oc:Nat} {OL:List (Nat×List Bool)} {P:Nat} {cs:Array Value} (h:Chk w B C M g ns ia ic IL oa oc OL)
  (hb:w.heap[P]? =some (.cells cs 85 (0,0))) (u v x:Value):Chk (((w.setCell ⟨P,0,none⟩ u).setCell ⟨P,1,none⟩ v).setCell ⟨P,2,none⟩ x) B C M g ns ia ic IL oa oc OL:=
 h.other (S:=fun k=>k=P) (((Keeps.setCell (S:=fun k=>k=P) w _ _ rfl).trans (Keeps.setCell (S:=fun k=>k=P) _ _ _ rfl) (fun _ _ h=>h)).trans (Keeps.setCell (S:=fun k=>k=P) _ _ _ rfl) (fun _ _ h=>h)) (fun i hi=>⟨_,hi▸hb,rfl⟩)
theorem qv (g:Gr) (k:Nat) (x:GAct):fo g k x=(if cP (aw g k 0 0) x.name≠0 then cP (aw g k 0 0) x.name else(bs x.tag x.xs).1,0):=by
 unfold fo;split<;>rfl
theorem pt {L:List (Nat×List Bool)} {l:List GAct} {n:GAct->Nat} {k R m:Nat} (h:L.map (·.2)=(l.take k).map (fun x=>List.replicate (n x) false)) (hk:k<l.length) (hm:m=n l[k]):
  (L++[(R,List.replicate m false)]).map (·.2)=(l.take (k+1)).map (fun x=>List.replicate (n x) false):=by
 subst hm;rw[List.take_succ_eq_append_getElem hk,List.map_append,List.map_append,h];rfl
theorem rm {L:List (Nat×List Bool)} {l:List GAct} {n:GAct->Nat} {k:Nat} (h:L.map (·.2)=(l.take k).map (fun x=>List.replicate (n x) false)):L.length<=k:=by
 have:=congrArg List.length h;rw[List.length_map,List.length_map,List.length_take] at this;omega
theorem rp (w0 w:World) (B C M:Nat) (g:Gr) (hg:GrAt w0 g) (hN:New w0 w) (hB:B=w0.heap.size) (hl:GLen g) (hal:g.acts.length<=32) (h:Chk w B C M g [] none 0 [] none 0 []):
  Calls Tryz.prog 84 #[.pointer (some ⟨C,0,none⟩)] w fun e w'=>cW (aD (fo g) 0 g.acts) 1 (fun w'=>∃ia ic IL oa oc OL,Chk w' B C M g (aw g g.acts.length 0 0) ia ic IL oa oc OL∧IL.map (·.2)=cn g nIn (fun _ _=>false)∧OL.map (·.2)=cn g cr (fun _ _=>false)) e w'∧KB B w w':=by
 obtain⟨⟨c0,c1,c2,c3,c4,-,-,-⟩,-,hCl⟩:=dk h.blk;obtain⟨it,hit,hz0,hz1,hz2⟩:=info_parts Al;have HAX:=Lib.hid hl.ax;have hla:=hl.a;clear hl;obtain⟨ok,hok⟩:∃ok:World->Prop,(fun w'=>∃ia ic IL oa oc OL,Chk w' B C M g (aw g g.acts.length 0 0) ia ic IL oa oc OL∧IL.map (·.2)=cn g nIn (fun _ _=>false)∧OL.map (·.2)=cn g cr (fun _ _=>false))=ok:=⟨_,rfl⟩
 rw[hok];have HOK:=Lib.hid hok;clear hok;obtain⟨ga,hga⟩:∃ga,g.aa=ga:=⟨_,rfl⟩
 rw[hga] at c1;have HGA:=Lib.hid hga;have HG:=Lib.hid hg;have HNw:=Lib.hid hN;have HBB:=Lib.hid hB;have hBw:B<=w.heap.size:=by rw[hB];exact hN.size
 clear hga hg hN hB;go_enter Tryz.func84,Tryz.ntmps84;go_wp2_with fail;have k0:New w (w.alloc (.cells #[.int .u8 0,I 0,I 0] 85)):=(New.refl w).alloc _;have hbx:(w.alloc (.cells #[.int .u8 0,I 0,I 0] 85)).heap[w.heap.size]? =some (.cells #[.int .u8 0,I 0,I 0] 85 (0,0)):=heap_alloc_new w _;generalize(w.alloc (.cells #[.int .u8 0,I 0,I 0] 85))=v0 at k0 hbx ⊢;clear c0 c1 c2 c3 c4;have hCh:=h.new k0;clear h hCl;go_loopw [15] (fun i wr=>∃(k:Nat) (ia:Option Addr) (ic:Nat) (IL:List (Nat×List Bool)) (oa:Option Addr) (oc:Nat) (OL:List (Nat×List Bool)),k<=g.acts.length∧i= .int .i64 k∧
   Hid (Chk wr B C M g (aw g k 0 0) ia ic IL oa oc OL∧IL.map (·.2)=(g.acts.take k).map (fun x=>List.replicate (nIn x) false)∧OL.map (·.2)=(g.acts.take k).map (fun x=>List.replicate (cr x) false)∧
    (∀j (hj:j<g.acts.length),j<k->(fo g j g.acts[j]).1=0)∧wr.heap[w.heap.size]? =some (.cells #[.int .u8 0,I 0,I 0] 85 (0,0))∧KB B w wr)) (fun i _=>g.acts.length-(intOf i).toNat)
 case atStart=>exact⟨0,none,0,[],none,0,[],by omega,rfl,Lib.hid ⟨hCh,by simp,by simp,fun j hj hjk=>by omega,hbx,KXg.of_new k0⟩⟩
 case round=>
  clear hCh hbx k0;obtain⟨k,ia,ic,IL,oa,oc,OL,hk,rfl,HR⟩:=hrel;obtain⟨hC,hI,hO,hE,hb,hKB⟩:=HR.out;have HI:=Lib.hid hI;have HO:=Lib.hid hO;have HE:=Lib.hid hE;have HB:=Lib.hid hb;clear hI hO hE hb HR;by_cases hk1:k<g.acts.length
  ·have hkI:(k:Int)<(g.acts.length:Int):=by omega
   have hkd:decide (k<g.acts.length)=true:=decide_eq_true hk1;have hGr:=HG.out.new (hKB.new HBB.out HNw.out);obtain⟨b,off,hab,q0,q1,q2⟩:=gP hGr.sa hk1;have hxs:=(HAX.out _ (List.getElem_mem hk1)).2;have hxn:=(HAX.out _ (List.getElem_mem hk1)).1;have hAE:Hid (fo g k g.acts[k]=_):=Lib.hid (qv g k g.acts[k]);have rL:=je g.acts[k].tag g.acts[k].xs;have hni:Hid (nIn g.acts[k]=(bs g.acts[k].tag g.acts[k].xs).2.1.length):=Lib.hid rfl;have hno:Hid (cr g.acts[k]=(bs g.acts[k].tag g.acts[k].xs).2.2.length):=Lib.hid rfl;have HOf:∀W,New w0 W->Calls Tryz.prog 125 #[.int .u8 g.acts[k].tag,.slice g.acts[k].a g.acts[k].xs.length g.acts[k].c] W (aP W (bs g.acts[k].tag g.acts[k].xs)):=fun W n=>zw _ _ _ _ W ((HG.out.ax _ (List.getElem_mem hk1)).new n) hxn
   have hnl:(aw g k 0 0).length<=1000:=by have:=mF g k 0 0;omega
   have hns:Hid (aw g (k+1) 0 0=aw g k 0 0++[g.acts[k].name]):=Lib.hid (wj g hk1);have hIl:=rm HI.out;have hOl:=rm HO.out;have HIn:∀R:Nat,Hid (((IL++[(R,List.replicate (bs g.acts[k].tag g.acts[k].xs).2.1.length false)]:List (Nat×List Bool))).map (·.2)=(g.acts.take (k+1)).map (fun x=>List.replicate (nIn x) false)):=fun R=>Lib.hid (pt HI.out hk1 rfl)
   have HOn:∀R:Nat,Hid (((OL++[(R,List.replicate (bs g.acts[k].tag g.acts[k].xs).2.2.length false)]:List (Nat×List Bool))).map (·.2)=(g.acts.take (k+1)).map (fun x=>List.replicate (cr x) false)):=fun R=>Lib.hid (pt HO.out hk1 rfl)
   have HF:Hid ((fo g k g.acts[k]).1≠0->aD (fo g) 0 g.acts=some (k,fo g k g.acts[k])):=Lib.hid (fun h=>gx hk1 HE.out h);have HE2:Hid ((fo g k g.acts[k]).1=0->∀j (hj:j<g.acts.length),j<k+1->(fo g j g.acts[j]).1=0):=Lib.hid (fun h j hj hjk=>by
    by_cases e:j=k
    ·subst e;exact h
    ·exact HE.out j hj (by omega))
   have e:ga=some ⟨b,off,none⟩:=HGA.out.symm.trans hab;subst e;clear hab hGr HE HI HO HAX;generalize g.acts[k]=x at q0 q1 q2 hxs hxn hAE rL hni hno HOf hns HIn HOn HF HE2;generalize bs x.tag x.xs=sh at hAE rL hni hno HOf HIn HOn;generalize aw g k 0 0=ns at hC hAE hnl hns;have or:=fun W (n:New wr W)=>qz W B C M g ns ia ic IL oa oc OL x.name (hC.new n) hxs hnl
   generalize cP ns x.name=nm at hAE or;clear hC;go_wp2_with fail;have kb:New wr (wr.alloc (.cells #[.string x.name,.int .u8 x.tag,.slice x.a x.xs.length x.c] 63)):=(New.refl wr).alloc _;have hby:(wr.alloc (.cells #[.string x.name,.int .u8 x.tag,.slice x.a x.xs.length x.c] 63)).heap[wr.heap.size]? =some (.cells #[.string x.name,.int .u8 x.tag,.slice x.a x.xs.length x.c] 63 (0,0)):=heap_alloc_new wr _;generalize(wr.alloc (.cells #[.string x.name,.int .u8 x.tag,.slice x.a x.xs.length x.c] 63))=w1 at kb hby ⊢;generalize wr.heap.size=Y at hby ⊢;replace HB:=Lib.hid (Keeps.heap kb HB.out (fun h=>h));replace hKB:=hKB.trans (KXg.of_new kb);refine(or w1 kb).mono ?_;rintro e w2 ⟨rfl,hC2,k2⟩;have HY:=Lib.hid (k2.heap hby rfl);replace HB:=Lib.hid (k2.heap HB.out rfl);replace hKB:=hKB.trans k2.wide;clear hby k2 kb q0 q1 q2 or;by_cases hnm:nm=0
   ·have e1:(nm==0)=true:=by simp[hnm]
    have e2:(nm != 0)=false:=by simp[hnm]
    have e3:decide (nm=0)=true:=decide_eq_true hnm;rw[if_pos hnm] at hC2;rw[hnm] at hAE;replace hAE:Hid (fo g k x=(sh.1,0)):=Lib.hid (by rw[hAE.out];simp);subst hnm;clear e1 e2 e3;obtain⟨y0,y1,y2,-⟩:=vk HY.out;have hOf:=HOf w2 (hKB.new HBB.out HNw.out);go_wp2_with fail;refine hOf.mono ?_;rintro e w3 ⟨ra,rac,rb,rbc,rfl,hra,hrb,_,k3⟩;replace HY:=Lib.hid (Keeps.heap k3 HY.out (fun h=>h));replace HB:=Lib.hid (Keeps.heap k3 HB.out (fun h=>h));replace hKB:=hKB.trans (KXg.of_new k3);have hC3:=hC2.new k3;clear hra hrb k3 hC2 y0 y1 y2 hOf HOf;obtain⟨n1,hn1⟩:∃n,sh.2.1.length=n:=⟨_,rfl⟩
    obtain⟨n2,hn2⟩:∃n,sh.2.2.length=n:=⟨_,rfl⟩
    rw[hn1] at HIn rL;rw[hn2] at HOn rL;rw[hn1,hn2];have Ei:IL.length<=32:=by omega
    have Ek:OL.length<=32:=by omega
    have hC:=hC3;clear hC3 hn1 hn2 hni hno;go_wp2_with fail;obtain⟨⟨-,-,-,-,-,-,c6,c7⟩,-,hCl⟩:=dk hC.blk;have hdr:New w3 w3.drew:=(New.refl w3).drew;have hS0:(fun w':World=>w'.cell? ⟨C,6,none⟩=some (.slice ia IL.length ic)∧C<w'.heap.size) w3.drew:=⟨hdr.cell c6,hCl⟩
    clear c6 c7;refine aj (fun w':World=>w'.cell? ⟨C,6,none⟩=some (.slice ia IL.length ic)∧C<w'.heap.size) [12] (by kernel_rfl) hS0 ?_;refine ae 0 hS0 ?_;refine ae 1 hS0 ?_;refine ae 2 hS0 ?_;refine ae 3 hS0 ?_;refine ae 4 hS0 ?_;refine ae 5 hS0 ?_;refine ae 6 hS0 ?_;refine ag 7 ?_;intro K hK;refine o9 ?_ (.tmp 41) (.tmp 41) ?_ n1 ?_ ?_ (by omega) ?_
    ·rfl
    ·rfl
    ·rfl
    ·rfl
    have kA:New w3.drew (w3.drew.alloc (.cells (List.replicate n1 (Value.bool false)).toArray 4)):=(New.refl _).alloc _;have hRA:(w3.drew.alloc (.cells (List.replicate n1 (Value.bool false)).toArray 4)).heap[w3.drew.heap.size]? =some (.cells (List.replicate n1 (Value.bool false)).toArray 4 (0,0)):=heap_alloc_new _ _;have hRn:w3.heap.size<=w3.drew.heap.size:=hdr.size;generalize(w3.drew.alloc (.cells (List.replicate n1 (Value.bool false)).toArray 4))=wA at kA hRA hK ⊢;generalize w3.drew.heap.size=R at hRA hRn ⊢;have hSA:(fun w':World=>w'.cell? ⟨C,6,none⟩=some (.slice ia IL.length ic)∧C<w'.heap.size) wA:=⟨kA.cell hS0.1,Nat.lt_of_lt_of_le hS0.2 kA.size⟩
    replace kA:=hdr.trans kA;refine hK _ _ (fun _=>hSA) ?_;clear hK K;refine ag 8 ?_;intro K hK;(try simp only[Act.put,sLs])
    go_simp;have kB:New wA (wA.alloc (.cells #[.slice (some ⟨R,0,none⟩) n1 n1] 200)):=(New.refl wA).alloc _;have hSB:(fun w':World=>w'.cell? ⟨C,6,none⟩=some (.slice ia IL.length ic)∧C<w'.heap.size) (wA.alloc (.cells #[.slice (some ⟨R,0,none⟩) n1 n1] 200)):=⟨kB.cell hSA.1,Nat.lt_of_lt_of_le hSA.2 kB.size⟩
    have bi:ar (wA.alloc (.cells #[.slice (some ⟨R,0,none⟩) n1 n1] 200)) (some ⟨wA.heap.size,0,none⟩) [.slice (some ⟨R,0,none⟩) n1 n1]:=ar.lit wA _ _;refine hK _ _ (fun _=>hSB) ?_;clear hK K;replace hRA:=Keeps.heap kB hRA (fun h=>h);replace kA:=kA.trans kB;generalize(wA.alloc (.cells #[.slice (some ⟨R,0,none⟩) n1 n1] 200))=wB at kA hRA hSB bi ⊢;generalize wA.heap.size=Z at bi ⊢;clear kB hSA hS0;refine ag 9 ?_;intro K hK;refine cS rfl _ _ 147 rfl B 200 it (.slice none 0 0) 1 24 Tryz.underlying147 hit hz0 hz1 hz2 rfl (by decide) ia IL.length ic (IL.map gm) rfl ((hC.new kA).gi.tab) (some ⟨Z,0,none⟩) 1 1 [.slice (some ⟨R,0,none⟩) n1 n1] rfl rfl bi (by intro u hu;rw[List.mem_singleton.1 hu];rfl) (by unfold maxLen;omega) (by omega) (Nat.le_trans (Nat.le_trans hBw hKB.size) kA.size) ?_;intro ao' c' wc az hk' hmv;obtain⟨⟨hv0,hfz,ti⟩,hCn,hKn⟩:=hC.addI (Nat.le_trans hBw hKB.size) kA hRA hRn az hk' hmv;have HCn:=Lib.hid hCn;have hSd:(fun w':World=>w'.cell? ⟨C,6,none⟩=some (.slice ia IL.length ic)∧C<w'.heap.size) wc:=⟨hv0,ti⟩
    refine hK _ _ (fun _=>hSd) ?_;clear hK K hC hCn az hk' hmv kA hRA hRn bi hSB;refine ae 10 hSd ?_;refine ae 11 hSd ?_;refine ag 12 ?_;intro K hK;(try simp only[Act.put,sLs])
    go_simp;refine hK _ _ (fun hx=>by cases hx) ?_;clear hK K;refine av (by kernel_rfl) ?_;(try simp only[Act.put,sLs])
    replace HY:=Lib.hid (hKn.heap HY.out rfl);replace HB:=Lib.hid (hKn.heap HB.out rfl);replace hKB:=hKB.trans hKn;have hC:=HCn.out;generalize(wc.setCell ⟨C,6,none⟩ (.slice ao' (IL.length+1) c'))=w5 at HY HB hKB hC ⊢;clear HCn hKn hv0 hfz hSd ti hdr hCl;(try simp only[Exit.then])
    replace HIn:=HIn R;generalize(IL++[(R,List.replicate n1 false)]:List (Nat×List Bool))=IL1 at HIn hC;generalize ao'=ia1 at hC;generalize c'=ic1 at hC;go_wp2_with fail;obtain⟨⟨-,-,-,-,-,-,c6,c7⟩,-,hCl⟩:=dk hC.blk;have hdr:New w5 w5.drew:=(New.refl w5).drew;have hS0:(fun w':World=>w'.cell? ⟨C,7,none⟩=some (.slice oa OL.length oc)∧C<w'.heap.size) w5.drew:=⟨hdr.cell c7,hCl⟩
    clear c6 c7;refine aj (fun w':World=>w'.cell? ⟨C,7,none⟩=some (.slice oa OL.length oc)∧C<w'.heap.size) [12] (by kernel_rfl) hS0 ?_;refine ae 0 hS0 ?_;refine ae 1 hS0 ?_;refine ae 2 hS0 ?_;refine ae 3 hS0 ?_;refine ae 4 hS0 ?_;refine ae 5 hS0 ?_;refine ae 6 hS0 ?_;refine ag 7 ?_;intro K hK;refine o9 ?_ (.tmp 53) (.tmp 53) ?_ n2 ?_ ?_ (by omega) ?_
    ·rfl
    ·rfl
    ·rfl
    ·rfl
    have kA:New w5.drew (w5.drew.alloc (.cells (List.replicate n2 (Value.bool false)).toArray 4)):=(New.refl _).alloc _;have hRA:(w5.drew.alloc (.cells (List.replicate n2 (Value.bool false)).toArray 4)).heap[w5.drew.heap.size]? =some (.cells (List.replicate n2 (Value.bool false)).toArray 4 (0,0)):=heap_alloc_new _ _;have hRn:w5.heap.size<=w5.drew.heap.size:=hdr.size;generalize(w5.drew.alloc (.cells (List.replicate n2 (Value.bool false)).toArray 4))=wA at kA hRA hK ⊢;generalize w5.drew.heap.size=R at hRA hRn ⊢;have hSA:(fun w':World=>w'.cell? ⟨C,7,none⟩=some (.slice oa OL.length oc)∧C<w'.heap.size) wA:=⟨kA.cell hS0.1,Nat.lt_of_lt_of_le hS0.2 kA.size⟩
    replace kA:=hdr.trans kA;refine hK _ _ (fun _=>hSA) ?_;clear hK K;refine ag 8 ?_;intro K hK;(try simp only[Act.put,sLs])
    go_simp;have kB:New wA (wA.alloc (.cells #[.slice (some ⟨R,0,none⟩) n2 n2] 200)):=(New.refl wA).alloc _;have hSB:(fun w':World=>w'.cell? ⟨C,7,none⟩=some (.slice oa OL.length oc)∧C<w'.heap.size) (wA.alloc (.cells #[.slice (some ⟨R,0,none⟩) n2 n2] 200)):=⟨kB.cell hSA.1,Nat.lt_of_lt_of_le hSA.2 kB.size⟩
    have bi:ar (wA.alloc (.cells #[.slice (some ⟨R,0,none⟩) n2 n2] 200)) (some ⟨wA.heap.size,0,none⟩) [.slice (some ⟨R,0,none⟩) n2 n2]:=ar.lit wA _ _;refine hK _ _ (fun _=>hSB) ?_;clear hK K;replace hRA:=Keeps.heap kB hRA (fun h=>h);replace kA:=kA.trans kB;generalize(wA.alloc (.cells #[.slice (some ⟨R,0,none⟩) n2 n2] 200))=wB at kA hRA hSB bi ⊢;generalize wA.heap.size=Z at bi ⊢;clear kB hSA hS0;refine ag 9 ?_;intro K hK;refine cS rfl _ _ 147 rfl B 200 it (.slice none 0 0) 1 24 Tryz.underlying147 hit hz0 hz1 hz2 rfl (by decide) oa OL.length oc (OL.map gm) rfl ((hC.new kA).go.tab) (some ⟨Z,0,none⟩) 1 1 [.slice (some ⟨R,0,none⟩) n2 n2] rfl rfl bi (by intro u hu;rw[List.mem_singleton.1 hu];rfl) (by unfold maxLen;omega) (by omega) (Nat.le_trans (Nat.le_trans hBw hKB.size) kA.size) ?_;intro ao' c' wc az hk' hmv;obtain⟨⟨hv0,hfz,ti⟩,hCn,hKn⟩:=hC.addO (Nat.le_trans hBw hKB.size) kA hRA hRn az hk' hmv;have HCn:=Lib.hid hCn;have hSd:(fun w':World=>w'.cell? ⟨C,7,none⟩=some (.slice oa OL.length oc)∧C<w'.heap.size) wc:=⟨hv0,ti⟩
    refine hK _ _ (fun _=>hSd) ?_;clear hK K hC hCn az hk' hmv kA hRA hRn bi hSB;refine ae 10 hSd ?_;refine ae 11 hSd ?_;refine ag 12 ?_;intro K hK;(try simp only[Act.put,sLs])
    go_simp;refine hK _ _ (fun hx=>by cases hx) ?_;clear hK K;refine av (by kernel_rfl) ?_;(try simp only[Act.put,sLs])
    replace HY:=Lib.hid (hKn.heap HY.out rfl);replace HB:=Lib.hid (hKn.heap HB.out rfl);replace hKB:=hKB.trans hKn;have hC:=HCn.out;generalize(wc.setCell ⟨C,7,none⟩ (.slice ao' (OL.length+1) c'))=w7 at HY HB hKB hC ⊢;clear HCn hKn hv0 hfz hSd ti hdr hCl;(try simp only[Exit.then])
    replace HOn:=HOn R;generalize(OL++[(R,List.replicate n2 false)]:List (Nat×List Bool))=OL1 at HOn hC;rw[<-hns.out] at hC;by_cases hs:sh.1=0
    ·have e2:(sh.1 != 0)=false:=by simp[hs]
     have HG2:=Lib.hid (HE2.out (by rw[hAE.out];exact hs));clear hs hAE HE2 HF;go_wp2_with fail;go_roundw
     case rel=>exact⟨k+1,_,_,_,_,_,_,by omega,by go_num,Lib.hid ⟨hC,HIn.out,HOn.out,HG2.out,HB.out,hKB⟩⟩
     case measure=>simp[intOf];omega
    ·have e2:(sh.1 != 0)=true:=by simp[hs]
     have HF2:=Lib.hid (HF.out (by rw[hAE.out];exact hs));clear hs HE2 HF hC;obtain⟨⟨r0,r1,r2⟩,⟨f0,f1,f2⟩,hBB⟩:=aJ HB.out;go_wp2_with fail;exact bodyPost_ret (v:= .tuple #[I sh.1,.agg #[.int .u8 1,I k,I 0]]) (by simp[results,Tryz.results84,go_sem,r0,r1,r2,f0,f1,f2,hBB]) rfl ⟨by unfold cW;rw[HF2.out,hAE.out];rfl,((hKB.setCell (Nat.le_refl _) _).setCell (Nat.le_refl _) _).setCell (Nat.le_refl _) _⟩
   ·have e1:(nm==0)=false:=by simp[hnm]
    have e2:(nm != 0)=true:=by simp[hnm]
    have e3:decide (nm=0)=false:=decide_eq_false hnm;have hA2:Hid (fo g k x=(nm,0)):=Lib.hid (by rw[hAE.out,if_pos hnm]);have HF2:=Lib.hid (HF.out (by rw[hA2.out];exact hnm));clear hnm HE2 HF hC2 hAE;obtain⟨⟨r0,r1,r2⟩,⟨f0,f1,f2⟩,hBB⟩:=aJ HB.out;go_wp2_with fail;exact bodyPost_ret (v:= .tuple #[I nm,.agg #[.int .u8 1,I k,I 0]]) (by simp[results,Tryz.results84,go_sem,r0,r1,r2,f0,f1,f2,hBB]) rfl ⟨by unfold cW;rw[HF2.out,hA2.out];rfl,((hKB.setCell (Nat.le_refl _) _).setCell (Nat.le_refl _) _).setCell (Nat.le_refl _) _⟩
  ·have hke:k=g.acts.length:=by omega
   have hkd:decide (k<g.acts.length)=false:=decide_eq_false hk1;rw[hke] at hC HE HI HO;have hLI:Hid (IL.map (·.2)=cn g nIn (fun _ _=>false)):=Lib.hid (by rw[qi];have:=HI.out;rw[List.take_length] at this;exact this);have hLO:Hid (OL.map (·.2)=cn g cr (fun _ _=>false)):=Lib.hid (by rw[qi];have:=HO.out;rw[List.take_length] at this;exact this);have HFN:Hid (aD (fo g) 0 g.acts=none):=Lib.hid (ig HE.out);have sN:Hid (∀W,Chk W B C M g (aw g g.acts.length 0 0) ia ic IL oa oc OL->ok W):=Lib.hid (fun W hW=>by
    rw[<-HOK.out];exact⟨ia,ic,IL,oa,oc,OL,hW,hLI.out,hLO.out⟩)
   clear HE HI HO hke hk hk1 hLI hLO HAX;obtain⟨⟨r0,r1,r2⟩,⟨f0,f1,f2⟩,hBB⟩:=aJ HB.out;have HCS:=Lib.hid (fun u v x=>hC.spot HB.out u v x);clear hC;go_wp2_with fail;exact bodyPost_ret (v:= .tuple #[I 0,.agg #[.int .u8 0,I 0,I 0]]) (by simp[results,Tryz.results84,go_sem,r0,r1,r2,f0,f1,f2,hBB]) rfl ⟨by unfold cW;rw[HFN.out];exact⟨rfl,sN.out _ (HCS.out _ _ _)⟩,((hKB.setCell (Nat.le_refl _) _).setCell (Nat.le_refl _) _).setCell (Nat.le_refl _) _⟩
theorem eQ {g:Gr} {n:GAct->Nat} {T:Int->Int->Bool} {L:List (Nat×List Bool)} (h:L.map (·.2)=cn g n T) (hal:g.acts.length<=32) (hn:∀x,n x<=16):uy L:=by
 refine⟨by have:=fW h;omega,fun r hr=>?_⟩;have h1:r.2∈cn g n T:=by rw[<-h];exact List.mem_map_of_mem hr
 obtain⟨i,hi,he⟩:=List.getElem_of_mem h1;rw[j9] at hi;have h2:=jf g n T hi;rw[List.getElem?_eq_getElem (by rw[j9];exact hi),he] at h2;simp only[Option.some.injEq] at h2;rw[h2];simp only[List.length_map,List.length_range];have:=hn g.acts[i];omega
theorem qM (x:GAct):nIn x<=16:=(je x.tag x.xs).1
theorem oE (x:GAct):cr x<=16:=(je x.tag x.xs).2
theorem Chk.tookO {w w':World} {B C M:Nat} {g:Gr} {ns:List ByteArray} {ia:Option Addr} {ic:Nat} {IL:List (Nat×List Bool)} {oa:Option Addr} {oc:Nat} {OL:List (Nat×List Bool)} {x p:Int} {e:Ending} (h:Chk w B C M g ns ia ic IL oa oc OL) (ht:iA w B oa oc OL x p e w'):Chk w' B C M g ns ia ic IL oa oc (dF OL x p):=by
 obtain⟨_,hG,_,hk⟩:=ht;have hn:∀ {i:Nat} {o:Obj},w.heap[i]? =some o->(∀cs fr,o≠ .cells cs 4 fr)->¬(∃r∈OL,r.1=i):=by
  rintro i o hi ho ⟨r,hr,rfl⟩;rw[h.go.row r hr] at hi;cases hi
  exact ho _ _ rfl
 obtain⟨es,iW,hM⟩:=h.nm.block;refine⟨?_,h.loC,h.loM,h.nm.keeps hk (hn hM (by intro cs fr e;cases e)),?_,hG,h.ta,?_⟩
 ·have:=hk.heap h.blk (hn h.blk (by intro cs fr e;simp at e));rw[mQ];exact this
 ·refine h.gi.other hk (fun i hi=>?_) (fun r hr=>?_)
  ·obtain⟨cur,hc⟩:=aL h.gi.tab (aV hi);exact hn hc (by intro cs fr e;simp at e)
  ·rintro⟨r',hr',e⟩;exact h.ro r hr r' hr' e.symm
 ·intro r hr r' hr';have hm:r'.1∈(dF OL x p).map (·.1):=List.mem_map_of_mem hr';rw[kM] at hm;obtain⟨y,hy,hye⟩:=List.mem_map.1 hm;rw[<-hye];exact h.ro r hr y hy
theorem Chk.tookI {w w':World} {B C M:Nat} {g:Gr} {ns:List ByteArray} {ia:Option Addr} {ic:Nat} {IL:List (Nat×List Bool)} {oa:Option Addr} {oc:Nat} {OL:List (Nat×List Bool)} {x p:Int} {e:Ending} (h:Chk w B C M g ns ia ic IL oa oc OL) (ht:iA w B ia ic IL x p e w'):Chk w' B C M g ns ia ic (dF IL x p) oa oc OL:=by
 obtain⟨_,hG,_,hk⟩:=ht;have hn:∀ {i:Nat} {o:Obj},w.heap[i]? =some o->(∀cs fr,o≠ .cells cs 4 fr)->¬(∃r∈IL,r.1=i):=by
  rintro i o hi ho ⟨r,hr,rfl⟩;rw[h.gi.row r hr] at hi;cases hi
  exact ho _ _ rfl
 obtain⟨es,iW,hM⟩:=h.nm.block;refine⟨?_,h.loC,h.loM,h.nm.keeps hk (hn hM (by intro cs fr e;cases e)),hG,?_,h.ta,?_⟩
 ·have:=hk.heap h.blk (hn h.blk (by intro cs fr e;simp at e));rw[mQ];exact this
 ·refine h.go.other hk (fun i hi=>?_) (fun r hr=>?_)
  ·obtain⟨cur,hc⟩:=aL h.go.tab (aV hi);exact hn hc (by intro cs fr e;simp at e)
  ·rintro⟨r',hr',e⟩;exact h.ro r' hr' r hr e
 ·intro r hr r' hr';have hm:r.1∈(dF IL x p).map (·.1):=List.mem_map_of_mem hr;rw[kM] at hm;obtain⟨y,hy,hye⟩:=List.mem_map.1 hm;rw[<-hye];exact h.ro y hy r' hr'
theorem lj {w:World} {C:Nat} {a0 a1 a2 a3 a4:Value} (h:w.heap[C]? =some (.cells #[a0,a1,a2,a3,a4] 66 (0,0))):
  w.cell? ⟨C,0,none⟩=some a0∧w.cell? ⟨C,1,none⟩=some a1∧w.cell? ⟨C,2,none⟩=some a2∧w.cell? ⟨C,3,none⟩=some a3∧w.cell? ⟨C,4,none⟩=some a4∧C<w.heap.size:=by
 refine⟨?_,?_,?_,?_,?_,(Array.getElem?_eq_some_iff.1 h).1⟩;all_goals rw[cell_of_block h];rfl
theorem kJ {g:Gr} {n:GAct->Nat} {T U:Int->Int->Bool} {L:List (Nat×List Bool)} {x p:Int} (h:L.map (·.2)=cn g n T) (hE:bu L x p=0) (hU:∀a q,U a q=(T a q||decide (x=a∧p=q))):(dF L x p).map (·.2)=cn g n U:=by
 rw[uu h hE];exact o7 (fun a q=>(hU a q).symm)
theorem sX (w0 w:World) (B C M:Nat) (g:Gr) (ns:List ByteArray) (ia:Option Addr) (ic:Nat) (IL:List (Nat×List Bool)) (oa:Option Addr) (oc:Nat) (OL:List (Nat×List Bool)) (hg:GrAt w0 g) (hN:New w0 w) (hB:B=w0.heap.size) (hl:GLen g) (hal:g.acts.length<=32)
  (h:Chk w B C M g ns ia ic IL oa oc OL) (hIL:IL.map (·.2)=cn g nIn (fun _ _=>false)) (hOL:OL.map (·.2)=cn g cr (fun _ _=>false)):
  Calls Tryz.prog 85 #[.pointer (some ⟨C,0,none⟩)] w fun e w'=>cW (aD (dd g) 0 g.edges) 2 (fun w'=>∃IL OL,Chk w' B C M g ns ia ic IL oa oc OL∧IL.map (·.2)=cn g nIn (bZ g g.edges.length 0)∧OL.map (·.2)=cn g cr (aZ g g.edges.length 0)) e w'∧KP B w w':=by
 obtain⟨⟨c0,c1,c2,c3,c4,-,-,-⟩,-,hCl⟩:=dk h.blk;have HEX:=Lib.hid hl.ex;have hle:=hl.e;clear hl;obtain⟨ok,hok⟩:∃ok:World->Prop,(fun w'=>∃IL OL,Chk w' B C M g ns ia ic IL oa oc OL∧IL.map (·.2)=cn g nIn (bZ g g.edges.length 0)∧OL.map (·.2)=cn g cr (aZ g g.edges.length 0))=ok:=⟨_,rfl⟩
 rw[hok];have HOK:=Lib.hid hok;clear hok;obtain⟨ga,hga⟩:∃ga,g.ea=ga:=⟨_,rfl⟩
 rw[hga] at c2;have HGA:=Lib.hid hga;have HG:=Lib.hid hg;have HNw:=Lib.hid hN;have HBB:=Lib.hid hB;have hBw:B<=w.heap.size:=by rw[hB];exact hN.size
 have HI0:Hid (IL.map (·.2)=cn g nIn (bZ g 0 0)):=Lib.hid (by rw[hIL];exact o7 (fun a p=>(vX g a p).symm));have HO0:Hid (OL.map (·.2)=cn g cr (aZ g 0 0)):=Lib.hid (by rw[hOL];exact o7 (fun a p=>(tV g a p).symm));clear hga hg hN hB hIL hOL;go_enter Tryz.func85,Tryz.ntmps85;go_wp2_with fail;have k0:New w (w.alloc (.cells #[.int .u8 0,I 0,I 0] 85)):=(New.refl w).alloc _;have hbx:(w.alloc (.cells #[.int .u8 0,I 0,I 0] 85)).heap[w.heap.size]? =some (.cells #[.int .u8 0,I 0,I 0] 85 (0,0)):=heap_alloc_new w _;generalize(w.alloc (.cells #[.int .u8 0,I 0,I 0] 85))=v0 at k0 hbx ⊢;clear c0 c1 c2 c3 c4;have hCh:=h.new k0;clear h hCl;go_loopw [14] (fun i wr=>∃(k:Nat) (IL OL:List (Nat×List Bool)),k<=g.edges.length∧i= .int .i64 k∧
   Hid (Chk wr B C M g ns ia ic IL oa oc OL∧IL.map (·.2)=cn g nIn (bZ g k 0)∧OL.map (·.2)=cn g cr (aZ g k 0)∧
    (∀j (hj:j<g.edges.length),j<k->(dd g j g.edges[j]).1=0)∧wr.heap[w.heap.size]? =some (.cells #[.int .u8 0,I 0,I 0] 85 (0,0))∧KP B w wr)) (fun i _=>g.edges.length-(intOf i).toNat)
 case atStart=>exact⟨0,IL,OL,by omega,rfl,Lib.hid ⟨hCh,HI0.out,HO0.out,fun j hj hjk=>by omega,hbx,KXg.of_new k0⟩⟩
 case round=>
  clear hCh hbx k0 HI0 HO0 IL OL;obtain⟨k,IL,OL,hk,rfl,HR⟩:=hrel;obtain⟨hC,hI,hO,hE,hb,hKB⟩:=HR.out;have HI:=Lib.hid hI;have HO:=Lib.hid hO;have HE:=Lib.hid hE;have HB:=Lib.hid hb;clear hI hO hE hb HR;by_cases hk1:k<g.edges.length
  ·have hkI:(k:Int)<(g.edges.length:Int):=by omega
   have hkd:decide (k<g.edges.length)=true:=decide_eq_true hk1;have hGr:=HG.out.new (hKB.new HBB.out HNw.out);obtain⟨b,off,hab,q0,q1,q2,q3,q4⟩:=fH hGr.se hk1;have hxn:=HEX.out _ (List.getElem_mem hk1);have HF:Hid ((dd g k g.edges[k]).1≠0->aD (dd g) 0 g.edges=some (k,dd g k g.edges[k])):=Lib.hid (fun h=>gx hk1 HE.out h);have HE2:Hid ((dd g k g.edges[k]).1=0->∀j (hj:j<g.edges.length),j<k+1->(dd g j g.edges[j]).1=0):=Lib.hid (fun h j hj hjk=>by
    by_cases e:j=k
    ·subst e;exact h
    ·exact HE.out j hj (by omega))
   have HOn:Hid (∀a q,aZ g (k+1) 0 a q=(aZ g k 0 a q||decide (g.edges[k].f=a∧g.edges[k].fp=q))):=Lib.hid (tU g hk1);have HIn:Hid (∀a q,bZ g (k+1) 0 a q=(bZ g k 0 a q||decide (g.edges[k].t=a∧g.edges[k].tp=q))):=Lib.hid (vW g hk1);have e:ga=some ⟨b,off,none⟩:=HGA.out.symm.trans hab;subst e;clear hab hGr HE HEX;have hAE:Hid (dd g k g.edges[k]=_):=Lib.hid (by unfold dd;exact rfl);generalize g.edges[k]=x at q0 q1 q2 q3 q4 hxn HOn HIn HF HE2 hAE;rw[<-jF HO.out,<-jF HI.out] at hAE;have hgo:=eQ HO.out hal oE;have hgi:=eQ HI.out hal qM;have HO2:Hid (bu OL x.f x.fp=0->(dF OL x.f x.fp).map (·.2)=cn g cr (aZ g (k+1) 0)):=Lib.hid (fun h=>kJ HO.out h HOn.out);have HI2:Hid (bu IL x.t x.tp=0->(dF IL x.t x.tp).map (·.2)=cn g nIn (bZ g (k+1) 0)):=Lib.hid (fun h=>kJ HI.out h HIn.out);clear HO HI HOn HIn;go_wp2_with fail;have kb:New wr (wr.alloc (.cells #[I x.f,I x.fp,I x.t,I x.tp,.slice x.a x.xs.length x.c] 66)):=(New.refl wr).alloc _;have hby:(wr.alloc (.cells #[I x.f,I x.fp,I x.t,I x.tp,.slice x.a x.xs.length x.c] 66)).heap[wr.heap.size]? =some (.cells #[I x.f,I x.fp,I x.t,I x.tp,.slice x.a x.xs.length x.c] 66 (0,0)):=heap_alloc_new wr _;generalize(wr.alloc (.cells #[I x.f,I x.fp,I x.t,I x.tp,.slice x.a x.xs.length x.c] 66))=w1 at kb hby ⊢;generalize wr.heap.size=Y at hby ⊢;replace HB:=Lib.hid (Keeps.heap kb HB.out (fun h=>h));replace hKB:=hKB.trans (KXg.of_new kb);have hC1:=hC.new kb;have HY:=Lib.hid hby;clear hby kb q0 q1 q2 q3 q4 hC;obtain⟨⟨-,-,-,-,-,-,c6,c7⟩,-,hCl⟩:=dk hC1.blk;obtain⟨y0,y1,y2,y3,-,hYl⟩:=lj HY.out;have hdr:New w1 w1.drew:=(New.refl w1).drew;have hS0:(fun w':World=>w'.cell? ⟨C,7,none⟩=some (.slice oa OL.length oc)∧w'.cell? ⟨Y,0,none⟩=some (I x.f)∧w'.cell? ⟨Y,1,none⟩=some (I x.fp)∧C<w'.heap.size∧Y<w'.heap.size) w1.drew:=⟨hdr.cell c7,hdr.cell y0,hdr.cell y1,hCl,hYl⟩
   have hCd:=hC1.new hdr;clear c6 c7 y0 y1 y2 y3 hCl hYl hC1;refine aj (fun w':World=>w'.cell? ⟨C,7,none⟩=some (.slice oa OL.length oc)∧w'.cell? ⟨Y,0,none⟩=some (I x.f)∧w'.cell? ⟨Y,1,none⟩=some (I x.fp)∧C<w'.heap.size∧Y<w'.heap.size) [8,9] (by kernel_rfl) hS0 ?_;refine ae 0 hS0 ?_;refine ae 1 hS0 ?_;refine ae 2 hS0 ?_;refine ae 3 hS0 ?_;refine ae 4 hS0 ?_;refine ae 5 hS0 ?_;refine ae 6 hS0 ?_;refine ae 7 hS0 ?_;refine ag 8 ?_;intro K hK;(try simp only[Act.put,sLs])
   go_simp;refine(ml w1.drew B oa oc OL x.f x.fp hCd.go hgo).mono ?_;rintro e w2 hT;have hC2:=hCd.tookO hT;obtain⟨rfl,-,kT,-⟩:=hT;refine hK _ _ (fun hx=>by cases hx) ?_;clear hK K;replace kT:=(KXg.of_new hdr).trans kT;replace HY:=Lib.hid (kT.heap HY.out rfl);replace HB:=Lib.hid (kT.heap HB.out rfl);replace hKB:=hKB.trans kT;clear kT hdr hS0 hCd;refine ag 9 ?_;intro K hK;(try simp only[Act.put,sLs])
   go_simp;refine hK _ _ (fun hx=>by cases hx) ?_;clear hK K;refine av (by kernel_rfl) ?_;(try simp only[Act.put,sLs])
   (try simp only[Exit.then])
   by_cases h1:bu OL x.f x.fp=0
   ·have d1:(bu OL x.f x.fp != 0)=false:=by simp[h1]
    have HO3:=Lib.hid (HO2.out h1);rw[if_neg (fun h=>h h1)] at hAE;generalize bu OL x.f x.fp=t1 at d1;generalize dF OL x.f x.fp=OL1 at HO3 hC2;clear HO2 h1 hgo;go_wp2_with fail;obtain⟨⟨-,-,-,-,-,-,c6,c7⟩,-,hCl⟩:=dk hC2.blk;obtain⟨y0,y1,y2,y3,-,hYl⟩:=lj HY.out;have hdr:New w2 w2.drew:=(New.refl w2).drew;have hS0:(fun w':World=>w'.cell? ⟨C,6,none⟩=some (.slice ia IL.length ic)∧w'.cell? ⟨Y,2,none⟩=some (I x.t)∧w'.cell? ⟨Y,3,none⟩=some (I x.tp)∧C<w'.heap.size∧Y<w'.heap.size) w2.drew:=⟨hdr.cell c6,hdr.cell y2,hdr.cell y3,hCl,hYl⟩
    have hCd:=hC2.new hdr;clear c6 c7 y0 y1 y2 y3 hCl hYl hC2;refine aj (fun w':World=>w'.cell? ⟨C,6,none⟩=some (.slice ia IL.length ic)∧w'.cell? ⟨Y,2,none⟩=some (I x.t)∧w'.cell? ⟨Y,3,none⟩=some (I x.tp)∧C<w'.heap.size∧Y<w'.heap.size) [8,9] (by kernel_rfl) hS0 ?_;refine ae 0 hS0 ?_;refine ae 1 hS0 ?_;refine ae 2 hS0 ?_;refine ae 3 hS0 ?_;refine ae 4 hS0 ?_;refine ae 5 hS0 ?_;refine ae 6 hS0 ?_;refine ae 7 hS0 ?_;refine ag 8 ?_;intro K hK;(try simp only[Act.put,sLs])
    go_simp;refine(ml w2.drew B ia ic IL x.t x.tp hCd.gi hgi).mono ?_;rintro e w3 hT;have hC3:=hCd.tookI hT;obtain⟨rfl,-,kT,-⟩:=hT;refine hK _ _ (fun hx=>by cases hx) ?_;clear hK K;replace kT:=(KXg.of_new hdr).trans kT;replace HY:=Lib.hid (kT.heap HY.out rfl);replace HB:=Lib.hid (kT.heap HB.out rfl);replace hKB:=hKB.trans kT;clear kT hdr hS0 hCd;refine ag 9 ?_;intro K hK;(try simp only[Act.put,sLs])
    go_simp;refine hK _ _ (fun hx=>by cases hx) ?_;clear hK K;refine av (by kernel_rfl) ?_;(try simp only[Act.put,sLs])
    (try simp only[Exit.then])
    by_cases h2:bu IL x.t x.tp=0
    ·have d2:(bu IL x.t x.tp != 0)=false:=by simp[h2]
     have HI3:=Lib.hid (HI2.out h2);rw[if_neg (fun h=>h h2)] at hAE;generalize bu IL x.t x.tp=t2 at d2;generalize dF IL x.t x.tp=IL1 at HI3 hC3;clear HI2 h2 hgi;obtain⟨-,-,-,-,y4,hYl⟩:=lj HY.out;by_cases h3:256<x.xs.length
     ·have d3:decide ((256:Int)<(x.xs.length:Int))=true:=decide_eq_true (by omega);rw[if_pos h3] at hAE;have HF2:=Lib.hid (HF.out (by rw[hAE.out];decide));clear h3 HE2 HF hC3;obtain⟨⟨r0,r1,r2⟩,⟨f0,f1,f2⟩,hBB⟩:=aJ HB.out;go_wp2_with fail;exact bodyPost_ret (v:= .tuple #[I 88,.agg #[.int .u8 2,I k,I 0]]) (by simp[results,Tryz.results85,go_sem,r0,r1,r2,f0,f1,f2,hBB]) rfl ⟨by unfold cW;rw[HF2.out,hAE.out];rfl,((hKB.setCell (Nat.le_refl _) _).setCell (Nat.le_refl _) _).setCell (Nat.le_refl _) _⟩
     ·have d3:decide ((256:Int)<(x.xs.length:Int))=false:=decide_eq_false (by omega);rw[if_neg h3] at hAE;have HG2:=Lib.hid (HE2.out (by rw[hAE.out]));clear h3 HE2 HF hAE;go_wp2_with fail;go_roundw
      case rel=>exact⟨k+1,_,_,by omega,by go_num,Lib.hid ⟨hC3,HI3.out,HO3.out,HG2.out,HB.out,hKB⟩⟩
      case measure=>simp[intOf];omega
    ·have d2:(bu IL x.t x.tp != 0)=true:=by simp[h2]
     rw[if_pos h2] at hAE;have HF2:=Lib.hid (HF.out (by rw[hAE.out];exact h2));generalize bu IL x.t x.tp=t2 at d2 hAE;clear h2 HE2 HF hC3 HI2;obtain⟨⟨r0,r1,r2⟩,⟨f0,f1,f2⟩,hBB⟩:=aJ HB.out;go_wp2_with fail;exact bodyPost_ret (v:= .tuple #[I t2,.agg #[.int .u8 2,I k,I 2]]) (by simp[results,Tryz.results85,go_sem,r0,r1,r2,f0,f1,f2,hBB]) rfl ⟨by unfold cW;rw[HF2.out,hAE.out];rfl,((hKB.setCell (Nat.le_refl _) _).setCell (Nat.le_refl _) _).setCell (Nat.le_refl _) _⟩
   ·have d1:(bu OL x.f x.fp != 0)=true:=by simp[h1]
    rw[if_pos h1] at hAE;have HF2:=Lib.hid (HF.out (by rw[hAE.out];exact h1));generalize bu OL x.f x.fp=t1 at d1 hAE;clear h1 HE2 HF hC2 HO2;obtain⟨⟨r0,r1,r2⟩,⟨f0,f1,f2⟩,hBB⟩:=aJ HB.out;go_wp2_with fail;exact bodyPost_ret (v:= .tuple #[I t1,.agg #[.int .u8 2,I k,I 1]]) (by simp[results,Tryz.results85,go_sem,r0,r1,r2,f0,f1,f2,hBB]) rfl ⟨by unfold cW;rw[HF2.out,hAE.out];rfl,((hKB.setCell (Nat.le_refl _) _).setCell (Nat.le_refl _) _).setCell (Nat.le_refl _) _⟩
  ·have hke:k=g.edges.length:=by omega
   have hkd:decide (k<g.edges.length)=false:=decide_eq_false hk1;rw[hke] at HE HI HO;have HFN:Hid (aD (dd g) 0 g.edges=none):=Lib.hid (ig HE.out);have sN:Hid (∀W,Chk W B C M g ns ia ic IL oa oc OL->ok W):=Lib.hid (fun W hW=>by
    rw[<-HOK.out];exact⟨IL,OL,hW,HI.out,HO.out⟩)
   clear HE HI HO hke hk hk1 HEX;obtain⟨⟨r0,r1,r2⟩,⟨f0,f1,f2⟩,hBB⟩:=aJ HB.out;have HCS:=Lib.hid (fun u v x=>hC.spot HB.out u v x);clear hC;go_wp2_with fail;exact bodyPost_ret (v:= .tuple #[I 0,.agg #[.int .u8 0,I 0,I 0]]) (by simp[results,Tryz.results85,go_sem,r0,r1,r2,f0,f1,f2,hBB]) rfl ⟨by unfold cW;rw[HFN.out];exact⟨rfl,sN.out _ (HCS.out _ _ _)⟩,((hKB.setCell (Nat.le_refl _) _).setCell (Nat.le_refl _) _).setCell (Nat.le_refl _) _⟩
theorem oU {w:World} {C:Nat} {a0 a1 a2:Value} (h:w.heap[C]? =some (.cells #[a0,a1,a2] 82 (0,0))):
  w.cell? ⟨C,0,none⟩=some a0∧w.cell? ⟨C,1,none⟩=some a1∧w.cell? ⟨C,2,none⟩=some a2∧C<w.heap.size:=by
 refine⟨?_,?_,?_,(Array.getElem?_eq_some_iff.1 h).1⟩;all_goals rw[cell_of_block h];rfl
theorem rv (w0 w:World) (B C M:Nat) (g:Gr) (ia:Option Addr) (ic:Nat) (IL:List (Nat×List Bool)) (oa:Option Addr) (oc:Nat) (OL:List (Nat×List Bool)) (hg:GrAt w0 g) (hN:New w0 w) (hB:B=w0.heap.size) (hl:GLen g) (hal:g.acts.length<=32) (hpi:g.ins.length<=16) (hpo:g.outs.length<=16)
  (h:Chk w B C M g (aw g g.acts.length 0 0) ia ic IL oa oc OL) (hL:IL.map (·.2)=cn g nIn (bZ g g.edges.length 0)):
  Calls Tryz.prog 86 #[.pointer (some ⟨C,0,none⟩),.slice g.ia g.ins.length g.ic,.slice ia g.acts.length ic,.int .u8 3,I 2] w fun e w'=>cW (aD (inE g) 0 g.ins) 3 (fun w'=>∃L,Chk w' B C M g (aw g g.acts.length g.ins.length 0) ia ic L oa oc OL∧L.map (·.2)=cn g nIn (bZ g g.edges.length g.ins.length)) e w'∧KP B w w':=by
 have HEX:=Lib.hid hl.ix;have hle:=hl.i;clear hl;obtain⟨ok,hok⟩:∃ok:World->Prop,(fun w'=>∃L,Chk w' B C M g (aw g g.acts.length g.ins.length 0) ia ic L oa oc OL∧L.map (·.2)=cn g nIn (bZ g g.edges.length g.ins.length))=ok:=⟨_,rfl⟩
 rw[hok];have HOK:=Lib.hid hok;clear hok;obtain⟨ga,hga⟩:∃ga,g.ia=ga:=⟨_,rfl⟩
 rw[hga];have HGA:=Lib.hid hga;have HG:=Lib.hid hg;have HNw:=Lib.hid hN;have HBB:=Lib.hid hB;have HL0:=Lib.hid hL;have hBw:B<=w.heap.size:=by rw[hB];exact hN.size
 clear hga hg hN hB hL;go_enter Tryz.func86,Tryz.ntmps86;go_wp2_with fail;have k0:New w (w.alloc (.cells #[.int .u8 0,I 0,I 0] 85)):=(New.refl w).alloc _;have hbx:(w.alloc (.cells #[.int .u8 0,I 0,I 0] 85)).heap[w.heap.size]? =some (.cells #[.int .u8 0,I 0,I 0] 85 (0,0)):=heap_alloc_new w _;generalize(w.alloc (.cells #[.int .u8 0,I 0,I 0] 85))=v0 at k0 hbx ⊢;have hCh:=h.new k0;clear h;go_loopw [18] (fun i wr=>∃(k:Nat) (L:List (Nat×List Bool)),k<=g.ins.length∧i= .int .i64 k∧
   Hid (Chk wr B C M g (aw g g.acts.length k 0) ia ic L oa oc OL∧L.map (·.2)=cn g nIn (bZ g g.edges.length k)∧
    (∀j (hj:j<g.ins.length),j<k->(inE g j g.ins[j]).1=0)∧wr.heap[w.heap.size]? =some (.cells #[.int .u8 0,I 0,I 0] 85 (0,0))∧KP B w wr)) (fun i _=>g.ins.length-(intOf i).toNat)
 case atStart=>exact⟨0,IL,by omega,rfl,Lib.hid ⟨hCh,HL0.out,fun j hj hjk=>by omega,hbx,KXg.of_new k0⟩⟩
 case round=>
  clear hCh hbx k0 HL0 IL;obtain⟨k,IL,hk,rfl,HR⟩:=hrel;obtain⟨hC,hI,hE,hb,hKB⟩:=HR.out;have HI:=Lib.hid hI;have HE:=Lib.hid hE;have HB:=Lib.hid hb;clear hI hE hb HR;by_cases hk1:k<g.ins.length
  ·have hkI:(k:Int)<(g.ins.length:Int):=by omega
   have hkd:decide (k<g.ins.length)=true:=decide_eq_true hk1;have hGr:=HG.out.new (hKB.new HBB.out HNw.out);obtain⟨b,off,hab,q0,q1,q2⟩:=ej hGr.si hk1;have hxs:=HEX.out _ (List.getElem_mem hk1);have HF:Hid ((inE g k g.ins[k]).1≠0->aD (inE g) 0 g.ins=some (k,inE g k g.ins[k])):=Lib.hid (fun h=>gx hk1 HE.out h);have HE2:Hid ((inE g k g.ins[k]).1=0->∀j (hj:j<g.ins.length),j<k+1->(inE g j g.ins[j]).1=0):=Lib.hid (fun h j hj hjk=>by
    by_cases e:j=k
    ·subst e;exact h
    ·exact HE.out j hj (by omega))
   have HIn:=Lib.hid (Ak g g.edges.length hk1);have hns:=Lib.hid (yW g g.acts.length hk1);have e:ga=some ⟨b,off,none⟩:=HGA.out.symm.trans hab;subst e;clear hab hGr HE HEX;have hAE:Hid (inE g k g.ins[k]=_):=Lib.hid (by unfold inE;exact rfl);have hnl:(aw g g.acts.length k 0).length<=1000:=by have:=mF g g.acts.length k 0;omega
   generalize g.ins[k]=x at q0 q1 q2 hxs HIn HF HE2 hAE hns;rw[<-jF HI.out] at hAE;have hgi:=eQ HI.out hal qM;have hLl:=Lib.hid (fW HI.out);have HI2:Hid (bu IL x.ac x.po=0->(dF IL x.ac x.po).map (·.2)=cn g nIn (bZ g g.edges.length (k+1))):=Lib.hid (fun h=>kJ HI.out h HIn.out);clear HI HIn;generalize(aw g g.acts.length k 0)=ns at hC hAE hnl hns;have or:=fun W (n:New wr W)=>qz W B C M g ns ia ic IL oa oc OL x.name (hC.new n) hxs hnl
   generalize cP ns x.name=nm at hAE or;clear hC;go_wp2_with fail;have kb:New wr (wr.alloc (.cells #[.string x.name,I x.ac,I x.po] 82)):=(New.refl wr).alloc _;have hby:(wr.alloc (.cells #[.string x.name,I x.ac,I x.po] 82)).heap[wr.heap.size]? =some (.cells #[.string x.name,I x.ac,I x.po] 82 (0,0)):=heap_alloc_new wr _;generalize(wr.alloc (.cells #[.string x.name,I x.ac,I x.po] 82))=w1 at kb hby ⊢;generalize wr.heap.size=Y at hby ⊢;replace HB:=Lib.hid (Keeps.heap kb HB.out (fun h=>h));replace hKB:=hKB.trans (KXg.of_new kb);refine(or w1 kb).mono ?_;rintro e w2 ⟨rfl,hC2,k2⟩;have HY:=Lib.hid (k2.heap hby rfl);replace HB:=Lib.hid (k2.heap HB.out rfl);replace hKB:=hKB.trans k2;clear hby k2 kb q0 q1 q2 or;by_cases hnm:nm=0
   ·rw[if_pos hnm] at hC2;rw[if_neg (fun h=>h hnm)] at hAE;subst hnm;have hT:Calls Tryz.prog 126 #[.slice ia g.acts.length ic,I x.ac,I x.po] w2 (iA w2 B ia ic IL x.ac x.po):=by
     have:=ml w2 B ia ic IL x.ac x.po hC2.gi hgi;rw[hLl.out] at this;exact this
    obtain⟨y0,y1,y2,hYl⟩:=oU HY.out;go_wp2_with fail;refine hT.mono ?_;rintro e w3 hT3;have hC3:=hC2.tookI hT3;obtain⟨rfl,-,kT,-⟩:=hT3;replace HY:=Lib.hid (kT.heap HY.out rfl);replace HB:=Lib.hid (kT.heap HB.out rfl);replace hKB:=hKB.trans kT;clear kT hT hC2 y0 y1 y2 hYl hgi;by_cases h2:bu IL x.ac x.po=0
    ·have d2:(bu IL x.ac x.po != 0)=false:=by simp[h2]
     have HI3:=Lib.hid (HI2.out h2);have HG2:=Lib.hid (HE2.out (by rw[hAE.out];exact h2));rw[<-hns.out] at hC3;clear hAE HE2 HF h2 HI2 hLl;generalize bu IL x.ac x.po=t2 at d2;generalize dF IL x.ac x.po=IL1 at HI3 hC3;go_wp2_with fail;go_roundw
     case rel=>exact⟨k+1,_,by omega,by go_num,Lib.hid ⟨hC3,HI3.out,HG2.out,HB.out,hKB⟩⟩
     case measure=>simp[intOf];omega
    ·have d2:(bu IL x.ac x.po != 0)=true:=by simp[h2]
     have HF2:=Lib.hid (HF.out (by rw[hAE.out];exact h2));clear HE2 HF hC3 HI2 hLl;generalize bu IL x.ac x.po=t2 at d2 hAE;obtain⟨⟨r0,r1,r2⟩,⟨f0,f1,f2⟩,hBB⟩:=aJ HB.out;go_wp2_with fail;exact bodyPost_ret (v:= .tuple #[I t2,.agg #[.int .u8 3,I k,I 2]]) (by simp[results,Tryz.results86,go_sem,r0,r1,r2,f0,f1,f2,hBB]) rfl ⟨by unfold cW;rw[HF2.out,hAE.out];rfl,((hKB.setCell (Nat.le_refl _) _).setCell (Nat.le_refl _) _).setCell (Nat.le_refl _) _⟩
   ·have e2:(nm != 0)=true:=by simp[hnm]
    rw[if_pos hnm] at hAE;have HF2:=Lib.hid (HF.out (by rw[hAE.out];exact hnm));clear hnm HE2 HF hC2 HI2 hLl hgi;obtain⟨⟨r0,r1,r2⟩,⟨f0,f1,f2⟩,hBB⟩:=aJ HB.out;go_wp2_with fail;exact bodyPost_ret (v:= .tuple #[I nm,.agg #[.int .u8 3,I k,I 0]]) (by simp[results,Tryz.results86,go_sem,r0,r1,r2,f0,f1,f2,hBB]) rfl ⟨by unfold cW;rw[HF2.out,hAE.out];rfl,((hKB.setCell (Nat.le_refl _) _).setCell (Nat.le_refl _) _).setCell (Nat.le_refl _) _⟩
  ·have hke:k=g.ins.length:=by omega
   have hkd:decide (k<g.ins.length)=false:=decide_eq_false hk1;rw[hke] at hC HE HI;have HFN:Hid (aD (inE g) 0 g.ins=none):=Lib.hid (ig HE.out);have sN:Hid (∀W,Chk W B C M g (aw g g.acts.length g.ins.length 0) ia ic IL oa oc OL->ok W):=Lib.hid (fun W hW=>by
    rw[<-HOK.out];exact⟨IL,hW,HI.out⟩)
   clear HE HI hke hk hk1 HEX;obtain⟨⟨r0,r1,r2⟩,⟨f0,f1,f2⟩,hBB⟩:=aJ HB.out;have HCS:=Lib.hid (fun u v x=>hC.spot HB.out u v x);clear hC;go_wp2_with fail;exact bodyPost_ret (v:= .tuple #[I 0,.agg #[.int .u8 0,I 0,I 0]]) (by simp[results,Tryz.results86,go_sem,r0,r1,r2,f0,f1,f2,hBB]) rfl ⟨by unfold cW;rw[HFN.out];exact⟨rfl,sN.out _ (HCS.out _ _ _)⟩,((hKB.setCell (Nat.le_refl _) _).setCell (Nat.le_refl _) _).setCell (Nat.le_refl _) _⟩
theorem rx (w0 w:World) (B C M:Nat) (g:Gr) (ia:Option Addr) (ic:Nat) (IL:List (Nat×List Bool)) (oa:Option Addr) (oc:Nat) (OL:List (Nat×List Bool)) (hg:GrAt w0 g) (hN:New w0 w) (hB:B=w0.heap.size) (hl:GLen g) (hal:g.acts.length<=32) (hpi:g.ins.length<=16) (hpo:g.outs.length<=16)
  (h:Chk w B C M g (aw g g.acts.length g.ins.length 0) ia ic IL oa oc OL) (hL:OL.map (·.2)=cn g cr (aZ g g.edges.length 0)):
  Calls Tryz.prog 86 #[.pointer (some ⟨C,0,none⟩),.slice g.oa g.outs.length g.oc,.slice oa g.acts.length oc,.int .u8 4,I 1] w fun e w'=>cW (aD (fu g) 0 g.outs) 4 (fun w'=>∃L,Chk w' B C M g (aw g g.acts.length g.ins.length g.outs.length) ia ic IL oa oc L∧L.map (·.2)=cn g cr (aZ g g.edges.length g.outs.length)) e w'∧KP B w w':=by
 have HEX:=Lib.hid hl.ox;have hle:=hl.o;clear hl;obtain⟨ok,hok⟩:∃ok:World->Prop,(fun w'=>∃L,Chk w' B C M g (aw g g.acts.length g.ins.length g.outs.length) ia ic IL oa oc L∧L.map (·.2)=cn g cr (aZ g g.edges.length g.outs.length))=ok:=⟨_,rfl⟩
 rw[hok];have HOK:=Lib.hid hok;clear hok;obtain⟨ga,hga⟩:∃ga,g.oa=ga:=⟨_,rfl⟩
 rw[hga];have HGA:=Lib.hid hga;have HG:=Lib.hid hg;have HNw:=Lib.hid hN;have HBB:=Lib.hid hB;have HL0:=Lib.hid hL;have hBw:B<=w.heap.size:=by rw[hB];exact hN.size
 clear hga hg hN hB hL;go_enter Tryz.func86,Tryz.ntmps86;go_wp2_with fail;have k0:New w (w.alloc (.cells #[.int .u8 0,I 0,I 0] 85)):=(New.refl w).alloc _;have hbx:(w.alloc (.cells #[.int .u8 0,I 0,I 0] 85)).heap[w.heap.size]? =some (.cells #[.int .u8 0,I 0,I 0] 85 (0,0)):=heap_alloc_new w _;generalize(w.alloc (.cells #[.int .u8 0,I 0,I 0] 85))=v0 at k0 hbx ⊢;have hCh:=h.new k0;clear h;go_loopw [18] (fun i wr=>∃(k:Nat) (L:List (Nat×List Bool)),k<=g.outs.length∧i= .int .i64 k∧
   Hid (Chk wr B C M g (aw g g.acts.length g.ins.length k) ia ic IL oa oc L∧L.map (·.2)=cn g cr (aZ g g.edges.length k)∧
    (∀j (hj:j<g.outs.length),j<k->(fu g j g.outs[j]).1=0)∧wr.heap[w.heap.size]? =some (.cells #[.int .u8 0,I 0,I 0] 85 (0,0))∧KP B w wr)) (fun i _=>g.outs.length-(intOf i).toNat)
 case atStart=>exact⟨0,OL,by omega,rfl,Lib.hid ⟨hCh,HL0.out,fun j hj hjk=>by omega,hbx,KXg.of_new k0⟩⟩
 case round=>
  clear hCh hbx k0 HL0 OL;obtain⟨k,OL,hk,rfl,HR⟩:=hrel;obtain⟨hC,hI,hE,hb,hKB⟩:=HR.out;have HI:=Lib.hid hI;have HE:=Lib.hid hE;have HB:=Lib.hid hb;clear hI hE hb HR;by_cases hk1:k<g.outs.length
  ·have hkI:(k:Int)<(g.outs.length:Int):=by omega
   have hkd:decide (k<g.outs.length)=true:=decide_eq_true hk1;have hGr:=HG.out.new (hKB.new HBB.out HNw.out);obtain⟨b,off,hab,q0,q1,q2⟩:=ej hGr.so hk1;have hxs:=HEX.out _ (List.getElem_mem hk1);have HF:Hid ((fu g k g.outs[k]).1≠0->aD (fu g) 0 g.outs=some (k,fu g k g.outs[k])):=Lib.hid (fun h=>gx hk1 HE.out h);have HE2:Hid ((fu g k g.outs[k]).1=0->∀j (hj:j<g.outs.length),j<k+1->(fu g j g.outs[j]).1=0):=Lib.hid (fun h j hj hjk=>by
    by_cases e:j=k
    ·subst e;exact h
    ·exact HE.out j hj (by omega))
   have HIn:=Lib.hid (wx g g.edges.length hk1);have hns:=Lib.hid (wk g g.acts.length g.ins.length hk1);have e:ga=some ⟨b,off,none⟩:=HGA.out.symm.trans hab;subst e;clear hab hGr HE HEX;have hAE:Hid (fu g k g.outs[k]=_):=Lib.hid (by unfold fu;exact rfl);have hnl:(aw g g.acts.length g.ins.length k).length<=1000:=by have:=mF g g.acts.length g.ins.length k;omega
   generalize g.outs[k]=x at q0 q1 q2 hxs HIn HF HE2 hAE hns;rw[<-jF HI.out] at hAE;have hgi:=eQ HI.out hal oE;have hLl:=Lib.hid (fW HI.out);have HI2:Hid (bu OL x.ac x.po=0->(dF OL x.ac x.po).map (·.2)=cn g cr (aZ g g.edges.length (k+1))):=Lib.hid (fun h=>kJ HI.out h HIn.out);clear HI HIn;generalize(aw g g.acts.length g.ins.length k)=ns at hC hAE hnl hns;have or:=fun W (n:New wr W)=>qz W B C M g ns ia ic IL oa oc OL x.name (hC.new n) hxs hnl
   generalize cP ns x.name=nm at hAE or;clear hC;go_wp2_with fail;have kb:New wr (wr.alloc (.cells #[.string x.name,I x.ac,I x.po] 82)):=(New.refl wr).alloc _;have hby:(wr.alloc (.cells #[.string x.name,I x.ac,I x.po] 82)).heap[wr.heap.size]? =some (.cells #[.string x.name,I x.ac,I x.po] 82 (0,0)):=heap_alloc_new wr _;generalize(wr.alloc (.cells #[.string x.name,I x.ac,I x.po] 82))=w1 at kb hby ⊢;generalize wr.heap.size=Y at hby ⊢;replace HB:=Lib.hid (Keeps.heap kb HB.out (fun h=>h));replace hKB:=hKB.trans (KXg.of_new kb);refine(or w1 kb).mono ?_;rintro e w2 ⟨rfl,hC2,k2⟩;have HY:=Lib.hid (k2.heap hby rfl);replace HB:=Lib.hid (k2.heap HB.out rfl);replace hKB:=hKB.trans k2;clear hby k2 kb q0 q1 q2 or;by_cases hnm:nm=0
   ·rw[if_pos hnm] at hC2;rw[if_neg (fun h=>h hnm)] at hAE;subst hnm;have hT:Calls Tryz.prog 126 #[.slice oa g.acts.length oc,I x.ac,I x.po] w2 (iA w2 B oa oc OL x.ac x.po):=by
     have:=ml w2 B oa oc OL x.ac x.po hC2.go hgi;rw[hLl.out] at this;exact this
    obtain⟨y0,y1,y2,hYl⟩:=oU HY.out;go_wp2_with fail;refine hT.mono ?_;rintro e w3 hT3;have hC3:=hC2.tookO hT3;obtain⟨rfl,-,kT,-⟩:=hT3;replace HY:=Lib.hid (kT.heap HY.out rfl);replace HB:=Lib.hid (kT.heap HB.out rfl);replace hKB:=hKB.trans kT;clear kT hT hC2 y0 y1 y2 hYl hgi;by_cases h2:bu OL x.ac x.po=0
    ·have d2:(bu OL x.ac x.po != 0)=false:=by simp[h2]
     have HI3:=Lib.hid (HI2.out h2);have HG2:=Lib.hid (HE2.out (by rw[hAE.out];exact h2));rw[<-hns.out] at hC3;clear hAE HE2 HF h2 HI2 hLl;generalize bu OL x.ac x.po=t2 at d2;generalize dF OL x.ac x.po=IL1 at HI3 hC3;go_wp2_with fail;go_roundw
     case rel=>exact⟨k+1,_,by omega,by go_num,Lib.hid ⟨hC3,HI3.out,HG2.out,HB.out,hKB⟩⟩
     case measure=>simp[intOf];omega
    ·have d2:(bu OL x.ac x.po != 0)=true:=by simp[h2]
     have HF2:=Lib.hid (HF.out (by rw[hAE.out];exact h2));clear HE2 HF hC3 HI2 hLl;generalize bu OL x.ac x.po=t2 at d2 hAE;obtain⟨⟨r0,r1,r2⟩,⟨f0,f1,f2⟩,hBB⟩:=aJ HB.out;go_wp2_with fail;exact bodyPost_ret (v:= .tuple #[I t2,.agg #[.int .u8 4,I k,I 1]]) (by simp[results,Tryz.results86,go_sem,r0,r1,r2,f0,f1,f2,hBB]) rfl ⟨by unfold cW;rw[HF2.out,hAE.out];rfl,((hKB.setCell (Nat.le_refl _) _).setCell (Nat.le_refl _) _).setCell (Nat.le_refl _) _⟩
   ·have e2:(nm != 0)=true:=by simp[hnm]
    rw[if_pos hnm] at hAE;have HF2:=Lib.hid (HF.out (by rw[hAE.out];exact hnm));clear hnm HE2 HF hC2 HI2 hLl hgi;obtain⟨⟨r0,r1,r2⟩,⟨f0,f1,f2⟩,hBB⟩:=aJ HB.out;go_wp2_with fail;exact bodyPost_ret (v:= .tuple #[I nm,.agg #[.int .u8 4,I k,I 0]]) (by simp[results,Tryz.results86,go_sem,r0,r1,r2,f0,f1,f2,hBB]) rfl ⟨by unfold cW;rw[HF2.out,hAE.out];rfl,((hKB.setCell (Nat.le_refl _) _).setCell (Nat.le_refl _) _).setCell (Nat.le_refl _) _⟩
  ·have hke:k=g.outs.length:=by omega
   have hkd:decide (k<g.outs.length)=false:=decide_eq_false hk1;rw[hke] at hC HE HI;have HFN:Hid (aD (fu g) 0 g.outs=none):=Lib.hid (ig HE.out);have sN:Hid (∀W,Chk W B C M g (aw g g.acts.length g.ins.length g.outs.length) ia ic IL oa oc OL->ok W):=Lib.hid (fun W hW=>by
    rw[<-HOK.out];exact⟨OL,hW,HI.out⟩)
   clear HE HI hke hk hk1 HEX;obtain⟨⟨r0,r1,r2⟩,⟨f0,f1,f2⟩,hBB⟩:=aJ HB.out;have HCS:=Lib.hid (fun u v x=>hC.spot HB.out u v x);clear hC;go_wp2_with fail;exact bodyPost_ret (v:= .tuple #[I 0,.agg #[.int .u8 0,I 0,I 0]]) (by simp[results,Tryz.results86,go_sem,r0,r1,r2,f0,f1,f2,hBB]) rfl ⟨by unfold cW;rw[HFN.out];exact⟨rfl,sN.out _ (HCS.out _ _ _)⟩,((hKB.setCell (Nat.le_refl _) _).setCell (Nat.le_refl _) _).setCell (Nat.le_refl _) _⟩
def lL (l:List Bool):Bool:=l.any (fun b=> !b)
theorem xz {l:List Bool} {j:Nat} (hj:j<l.length) (h:l[j]=false):lL l=true:=by
 unfold lL;exact List.any_eq_true.2 ⟨l[j],List.getElem_mem hj,by simp[h]⟩
theorem vq {l:List Bool} (h:∀j (hj:j<l.length),l[j]=true):lL l=false:=by
 unfold lL;rw[List.any_eq_false];intro b hb;obtain⟨j,hj,rfl⟩:=List.getElem_of_mem hb;simp[h j hj]
theorem nY (n:Nat) (T:Nat->Bool):lL ((List.range n).map T)=(List.range n).any (fun k=> !T k):=by
 unfold lL;rw[List.any_map];rfl
def eH (g:Gr) (i:Nat) (x:GAct):Int×Int:=(if e8 g i x then 87 else 0,0)
theorem uW {g:Gr} {n:GAct->Nat} {T:Int->Int->Bool} {L:List (Nat×List Bool)} (h:L.map (·.2)=cn g n T) {a:Nat} (ha:a<g.acts.length) (hl:a<L.length):L[a].2=(List.range (n g.acts[a])).map fun(p:Nat)=>T a p:=by
 have:=oX h ha
 rwa [List.getD_eq_getElem?_getD,List.getElem?_eq_getElem hl] at this
theorem vB (w:World) (B C M:Nat) (g:Gr) (ns:List ByteArray) (ia:Option Addr) (ic:Nat) (IL:List (Nat×List Bool)) (oa:Option Addr) (oc:Nat) (OL:List (Nat×List Bool)) (hal:g.acts.length<=32)
  (h:Chk w B C M g ns ia ic IL oa oc OL) (hIL:IL.map (·.2)=cn g nIn (bZ g g.edges.length g.ins.length)) (hOL:OL.map (·.2)=cn g cr (aZ g g.edges.length g.outs.length)):
  Calls Tryz.prog 87 #[.pointer (some ⟨C,0,none⟩)] w fun e w'=>cW (aD (eH g) 0 g.acts) 1 (fun _=>True) e w'∧KP B w w':=by
 obtain⟨⟨c0,c1,c2,c3,c4,-,-,-⟩,-,hCl⟩:=dk h.blk;have HI:=Lib.hid hIL;have HO:=Lib.hid hOL;clear hIL hOL;go_enter Tryz.func87,Tryz.ntmps87;go_wp2_with fail;have k0:New w (w.alloc (.cells #[.int .u8 0,I 0,I 0] 85)):=(New.refl w).alloc _;have hbx:(w.alloc (.cells #[.int .u8 0,I 0,I 0] 85)).heap[w.heap.size]? =some (.cells #[.int .u8 0,I 0,I 0] 85 (0,0)):=heap_alloc_new w _;generalize(w.alloc (.cells #[.int .u8 0,I 0,I 0] 85))=v0 at k0 hbx ⊢;clear c0 c1 c2 c3 c4;have hCh:=h.new k0;clear h hCl;go_loopw [15] (fun i wr=>∃(k:Nat),k<=g.acts.length∧i= .int .i64 k∧
   Hid ((∀j (hj:j<g.acts.length),j<k->(eH g j g.acts[j]).1=0)∧wr.heap[w.heap.size]? =some (.cells #[.int .u8 0,I 0,I 0] 85 (0,0))∧New v0 wr)) (fun i _=>g.acts.length-(intOf i).toNat)
 case atStart=>exact⟨0,by omega,rfl,Lib.hid ⟨fun j hj hjk=>by omega,hbx,New.refl _⟩⟩
 case round=>
  clear hbx;obtain⟨k,hk,rfl,HR⟩:=hrel;obtain⟨hE,hb,hNr⟩:=HR.out;have HE:=Lib.hid hE;have HB:=Lib.hid hb;clear hE hb HR;have hC:=hCh.new hNr;have hKB:=(KXg.of_new (p:=zZ) (B:=B) k0).trans (KXg.of_new hNr);by_cases hk1:k<g.acts.length
  ·have hkI:(k:Int)<(g.acts.length:Int):=by omega
   have hkd:decide (k<g.acts.length)=true:=decide_eq_true hk1;have hli:=fW HI.out;have hlo:=fW HO.out;have hiI:(k:Int)<(IL.length:Int):=by omega
   have hoI:(k:Int)<(OL.length:Int):=by omega
   have hi1:k<IL.length:=by omega
   have ho1:k<OL.length:=by omega
   have HF:Hid ((eH g k g.acts[k]).1≠0->aD (eH g) 0 g.acts=some (k,eH g k g.acts[k])):=Lib.hid (fun h=>gx hk1 HE.out h);have HE2:Hid ((eH g k g.acts[k]).1=0->∀j (hj:j<g.acts.length),j<k+1->(eH g j g.acts[j]).1=0):=Lib.hid (fun h j hj hjk=>by
    by_cases e:j=k
    ·subst e;exact h
    ·exact HE.out j hj (by omega))
   have hOE:Hid (eH g k g.acts[k]=(if lL IL[k].2||lL OL[k].2 then 87 else 0,0)):=Lib.hid (by
    unfold eH e8;rw[uW HI.out hk1 hi1,uW HO.out hk1 ho1,nY,nY])
   have hgi:=(eQ HI.out hal qM).2 _ (List.getElem_mem hi1);have hgo:=(eQ HO.out hal oE).2 _ (List.getElem_mem ho1);obtain⟨⟨-,-,-,-,-,-,c6,c7⟩,-,hCl⟩:=dk hC.blk;have hrI:=Lib.hid (hC.gi.row _ (List.getElem_mem hi1));have hrO:=Lib.hid (hC.go.row _ (List.getElem_mem ho1));obtain⟨b1,o1,hia,t1⟩:=(ar.of_owns hC.gi.tab).at (i:=k) (by simpa using hi1);obtain⟨b2,o2,hoa,t2⟩:=(ar.of_owns hC.go.tab).at (i:=k) (by simpa using ho1);simp only[List.getElem_map] at t1 t2;have hb1:b1<wr.heap.size:=World.block_lt_of_cell? wr _ t1;have hb2:b2<wr.heap.size:=World.block_lt_of_cell? wr _ t2;rw[hia] at c6;rw[hoa] at c7;clear hC hli hlo hia hoa HE;generalize eH g k g.acts[k]=oF at HF HE2 hOE;generalize IL[k]=r1 at t1 hrI hgi hOE;generalize OL[k]=r2 at t2 hrO hgo hOE;go_wp2_with fail;have hdr:New wr wr.drew:=(New.refl wr).drew;have hS0:(fun w':World=>w'.cell? ⟨C,6,none⟩=some (.slice (some ⟨b1,o1,none⟩) IL.length ic)∧w'.cell? ⟨C,7,none⟩=some (.slice (some ⟨b2,o2,none⟩) OL.length oc)∧w'.cell? ⟨b1,o1+k,none⟩=some (gm r1)∧w'.cell? ⟨b2,o2+k,none⟩=some (gm r2)∧C<w'.heap.size∧b1<w'.heap.size∧b2<w'.heap.size) wr.drew:=⟨hdr.cell c6,hdr.cell c7,hdr.cell t1,hdr.cell t2,hCl,hb1,hb2⟩
   clear c6 c7 t1 t2 hCl hb1 hb2;refine aj (fun w':World=>w'.cell? ⟨C,6,none⟩=some (.slice (some ⟨b1,o1,none⟩) IL.length ic)∧w'.cell? ⟨C,7,none⟩=some (.slice (some ⟨b2,o2,none⟩) OL.length oc)∧w'.cell? ⟨b1,o1+k,none⟩=some (gm r1)∧w'.cell? ⟨b2,o2+k,none⟩=some (gm r2)∧C<w'.heap.size∧b1<w'.heap.size∧b2<w'.heap.size) [] (by kernel_rfl) hS0 ?_;refine ae 0 hS0 ?_;refine ae 1 hS0 ?_;refine ae 2 hS0 ?_;refine ae 3 hS0 ?_;refine ae 4 hS0 ?_;refine ae 5 hS0 ?_;refine ae 6 hS0 ?_;refine ae 7 hS0 ?_;refine ae 8 hS0 ?_;refine ae 9 hS0 ?_;refine ae 10 hS0 ?_;refine ae 11 hS0 ?_;refine ae 12 hS0 ?_;refine ae 13 hS0 ?_;refine ae 16 hS0 ?_;refine ag 14 ?_;intro K hK;(try simp only[Act.put,sLs])
   go_simp;have kz1:New wr.drew (wr.drew.alloc (.cells #[gm r1,gm r2] 200)):=(New.refl _).alloc _;have hS1:(fun w':World=>w'.cell? ⟨C,6,none⟩=some (.slice (some ⟨b1,o1,none⟩) IL.length ic)∧w'.cell? ⟨C,7,none⟩=some (.slice (some ⟨b2,o2,none⟩) OL.length oc)∧w'.cell? ⟨b1,o1+k,none⟩=some (gm r1)∧w'.cell? ⟨b2,o2+k,none⟩=some (gm r2)∧C<w'.heap.size∧b1<w'.heap.size∧b2<w'.heap.size) (wr.drew.alloc (.cells #[gm r1,gm r2] 200)):=by
    obtain⟨s1,s2,s3,s4,s5,s6,s7⟩:=hS0;have:=kz1.size;exact⟨kz1.cell s1,kz1.cell s2,kz1.cell s3,kz1.cell s4,by omega,by omega,by omega⟩
   refine hK _ _ (fun _=>hS1) ?_;clear hK K;refine ag 15 ?_;intro K hK;(try simp only[Act.put,sLs])
   go_simp;refine hK _ _ (fun _=>hS1) ?_;clear hK K hS1 kz1;refine av (by kernel_rfl) ?_;(try simp only[Act.put,sLs])
   (try simp only[Exit.then])
   have kz:New wr (wr.alloc (.cells #[gm r1,gm r2] 200)).drew:=((New.refl wr).alloc _).drew;have hz:(wr.alloc (.cells #[gm r1,gm r2] 200)).drew.heap[wr.heap.size]? =some (.cells #[gm r1,gm r2] 200 (0,0)):=heap_alloc_new wr _;generalize(wr.alloc (.cells #[gm r1,gm r2] 200)).drew=v1 at kz hz ⊢;generalize wr.heap.size=Z at hz ⊢;replace hrI:=Lib.hid (Keeps.heap kz hrI.out (fun h=>h));replace hrO:=Lib.hid (Keeps.heap kz hrO.out (fun h=>h));replace HB:=Lib.hid (Keeps.heap kz HB.out (fun h=>h));replace hKB:=hKB.trans (KXg.of_new kz);replace hNr:=hNr.trans kz;clear kz hdr hS0;have HZ:=Lib.hid hz;clear hz;go_wp2_with fail;go_loop [34] (fun i=>∃j:Nat,j<=2∧i= .int .i64 j∧Hid ((1<=j->lL r1.2=false)∧(2<=j->lL r2.2=false))) (fun i=>2-(intOf i).toNat)
   case atStart=>exact⟨0,by omega,rfl,Lib.hid ⟨fun h=>by omega,fun h=>by omega⟩⟩
   case round=>
    obtain⟨j,hj,rfl,HJ⟩:=hrel;by_cases hj2:j<2
    ·have hjI:(j:Int)<2:=by omega
     have hjd:decide (j<2)=true:=decide_eq_true hj2;have Aj:∃r:Nat×List Bool,v1.cell? ⟨Z,j,none⟩=some (.slice (some ⟨r.1,0,none⟩) r.2.length r.2.length)∧Hid (v1.heap[r.1]? =some (.cells (r.2.map Value.bool).toArray 4 (0,0)))∧r.2.length<=64∧Hid (lL r.2=true->oF=(87,0))∧Hid (lL r.2=false->((1<=j+1->lL r1.2=false)∧(2<=j+1->lL r2.2=false))):=by
      by_cases e0:j=0
      ·subst e0;exact⟨r1,by rw[cell_of_block HZ.out 0];rfl,hrI,hgi,Lib.hid (fun h=>by rw[hOE.out,h];rfl),Lib.hid (fun h=>⟨fun _=>h,fun h2=>by omega⟩)⟩
      ·obtain rfl:j=1:=by omega
       exact⟨r2,by rw[cell_of_block HZ.out 1];rfl,hrO,hgo,Lib.hid (fun h=>by rw[hOE.out,h];simp),Lib.hid (fun h=>⟨fun _=>HJ.out.1 (by omega),fun _=>h⟩)⟩
     obtain⟨r,hrc,hrb,hrl,rI,yi⟩:=Aj;have hZl:Z<v1.heap.size:=World.block_lt_of_cell? v1 _ hrc;clear HJ hrI hrO hgi hgo;go_wp2_with fail;go_loop [40] (fun i=>∃m:Nat,m<=r.2.length∧i= .int .i64 m∧Hid (∀q (hq:q<r.2.length),q<m->r.2[q]=true)) (fun i=>r.2.length-(intOf i).toNat)
     case atStart=>exact⟨0,by omega,rfl,Lib.hid (fun q hq hq0=>by omega)⟩
     case round=>
      obtain⟨m,hm,rfl,HM⟩:=hrel;by_cases hm1:m<r.2.length
      ·have hmI:(m:Int)<(r.2.length:Int):=by omega
       have hmd:decide (m<r.2.length)=true:=decide_eq_true hm1;have qE:v1.cell? ⟨r.1,m,none⟩=some (.bool r.2[m]):=by
        rw[cell_of_block hrb.out m];simp[hm1]
       have Eu:r.1<v1.heap.size:=World.block_lt_of_cell? v1 _ qE;cases hq:r.2[m] with
       |true=>
        rw[hq] at qE;have HM2:Hid (∀q (hq:q<r.2.length),q<m+1->r.2[q]=true):=Lib.hid (fun q hq2 hqm=>by
         by_cases e:q=m
         ·subst e;exact hq
         ·exact HM.out q hq2 (by omega))
        clear hq HM;go_wp2_with fail;go_round
        case rel=>exact⟨m+1,by omega,by go_num,HM2⟩
        case measure=>simp[intOf];omega
       |false=>
        rw[hq] at qE;have hO:=Lib.hid (rI.out (xz hm1 hq));have HF2:=Lib.hid (HF.out (by rw[hO.out];decide));clear hq HM rI yi HE2 HF hOE;obtain⟨⟨r0,r1,r2⟩,⟨f0,f1,f2⟩,hBB⟩:=aJ HB.out;go_wp2_with fail;exact bodyPost_ret (v:= .tuple #[I 87,.agg #[.int .u8 1,I k,I 0]]) (by simp[results,Tryz.results87,go_sem,r0,r1,r2,f0,f1,f2,hBB]) rfl ⟨by unfold cW;rw[HF2.out,hO.out];rfl,((hKB.setCell (Nat.le_refl _) _).setCell (Nat.le_refl _) _).setCell (Nat.le_refl _) _⟩
      ·have hmd:decide (m<r.2.length)=false:=decide_eq_false hm1;have HJ2:=Lib.hid (yi.out (vq (fun q hq=>HM.out q hq (by omega))));clear HM yi rI hm hm1;go_wp2_with fail;go_round
       case rel=>exact⟨j+1,by omega,by go_num,HJ2⟩
       case measure=>simp[intOf];omega
    ·have hjd:decide (j<2)=false:=decide_eq_false hj2;have hjI:(2:Int)<=(j:Int):=by omega
     have Em:decide ((j:Int)<2)=false:=decide_eq_false (by omega);have hO:Hid (oF=(0,0)):=Lib.hid (by rw[hOE.out,HJ.out.1 (by omega),HJ.out.2 (by omega)];rfl);have HG2:=Lib.hid (HE2.out (by rw[hO.out]));clear HJ hOE HE2 HF hj2 hj;go_wp2_with fail;go_roundw
     case rel=>exact⟨k+1,by omega,by go_num,Lib.hid ⟨HG2.out,HB.out,hNr⟩⟩
     case measure=>simp[intOf];omega
  ·have hke:k=g.acts.length:=by omega
   have hkd:decide (k<g.acts.length)=false:=decide_eq_false hk1;rw[hke] at HE;have HFN:Hid (aD (eH g) 0 g.acts=none):=Lib.hid (ig HE.out);clear HE hke hk hk1 hC;obtain⟨⟨r0,r1,r2⟩,⟨f0,f1,f2⟩,hBB⟩:=aJ HB.out;go_wp2_with fail;exact bodyPost_ret (v:= .tuple #[I 0,.agg #[.int .u8 0,I 0,I 0]]) (by simp[results,Tryz.results87,go_sem,r0,r1,r2,f0,f1,f2,hBB]) rfl ⟨by unfold cW;rw[HFN.out];exact⟨rfl,trivial⟩,((hKB.setCell (Nat.le_refl _) _).setCell (Nat.le_refl _) _).setCell (Nat.le_refl _) _⟩
end Go.Proofs.YtnedmonlofbahaaGreatDoor
