/-
  SkE, SkJ, SkK, SkR, SkV, SkX, SkY, SkL: what is wanted of them.
-/
import Derived.Test.YtnedmonlofbahaaGreatDoorSwB
import Derived.BigRegion
set_option maxRecDepth 100000
set_option maxHeartbeats 8000000
namespace Go.Proofs.YtnedmonlofbahaaGreatDoor
open Go Go.RowKit Go.Joins
set_option linter.all false
theorem cB {w:World} {R:Nat} {x0 x1:Value} {T:TypeId} (h:w.heap[R]? =some (.cells #[x0,x1] T (0,0))) (u0 u1:Value):((w.setCell ⟨R,0,none⟩ u0).setCell ⟨R,1,none⟩ u1).heap[R]? =some (.cells #[u0,u1] T (0,0))∧Keeps (fun k=>k=R) w ((w.setCell ⟨R,0,none⟩ u0).setCell ⟨R,1,none⟩ u1):=by
 have h1:=block_setCell (i:=0) h u0;have h2:=block_setCell (i:=1) h1 u1;refine⟨by rw[h2];simp,(Keeps.setCell (S:=fun k=>k=R) w _ _ rfl).trans (Keeps.setCell (S:=fun k=>k=R) _ _ _ rfl) (fun _ _ h=>h)⟩
theorem aT {w:World} {R:Nat} {x0 x1:Value} {T:TypeId} (h:w.heap[R]? =some (.cells #[x0,x1] T (0,0))):
  w.cell? ⟨R,0,none⟩=some x0∧w.cell? ⟨R,1,none⟩=some x1∧w.frozen? ⟨R,0,none⟩=false∧w.frozen? ⟨R,1,none⟩=false∧R<w.heap.size:=by
 refine⟨?_,?_,unfrozen_of_block h 0,unfrozen_of_block h 1,(Array.getElem?_eq_some_iff.1 h).1⟩
 ·rw[cell_of_block h 0];rfl
 ·rw[cell_of_block h 1];rfl
theorem uC {w:World} {G:Nat} {l:List LTok} {a:Option Addr} {c k:Nat} (h:PAt w G l a c k):fB w G=k:=by
 unfold fB;rw[h.cells.2.1];exact Int.toNat_natCast _
theorem gf {P:Program} {fn:Func} {tmps:Array Value} {k:Nat} {v:Value} {R:Ending->World->Prop} (hr:results fn (tmps.setIfInBounds k v)=results fn tmps):∀(ds:List Deferred) (u:FrameMode) (w:World),Leaves P fn (tmps.setIfInBounds k v) R ds u w->Leaves P fn tmps R ds u w:=by
 intro ds;induction ds with
 |nil=>
  intro u w h;cases u with
  |run=>exact h
  |returning=>
   obtain⟨x,h1,h2⟩:=h;exact⟨x,by rw[<-hr];exact h1,h2⟩
  |panicking c=>exact h
 |cons d ds ih=>
  intro u w h;obtain⟨hu,fv,cap,f,args,h1,h2,h3⟩:=h;refine⟨hu,fv,cap,f,args,h1,h2,h3.mono ?_⟩;intro e u' w' h4;cases e with
  |returned x=>exact ih _ _ h4
  |panicked c=>exact ih _ _ h4
  |outgrown=>exact h4
theorem gU (tmps:Array Value) (k:Nat) (v:Value) (h2:k≠2) (h3:k≠3):results Tryz.f23 (tmps.setIfInBounds k v)=results Tryz.f23 tmps:=by
 unfold results;rw[Tryz.results23];simp[h2,h3]
theorem eP (w:World) (R0 R1:Nat) (x0 x1 d0 d1:Value) (c a:Int) (AY:List PanicEntry) (hne:R0≠R1)
  (h0:w.heap[R0]? =some (.cells #[x0,x1] 52 (0,0))) (h1:w.heap[R1]? =some (.cells #[d0,d1] 33 (0,0))):
  CallsD Tryz.prog 47 #[.pointer (some ⟨R0,0,none⟩),.pointer (some ⟨R1,0,none⟩)] (.panicking ({ v:= .iface 33 (.agg #[I c,I a]),recovered:=false } ::AY)) w fun e u' w'=>
   e= .returned (.tuple #[])∧u'= .panicking ({ v:= .iface 33 (.agg #[I c,I a]),recovered:=true } ::AY)∧
   w'.heap[R0]? =some (.cells #[.string ⟨#[]⟩,.slice none 0 0] 52 (0,0))∧w'.heap[R1]? =some (.cells #[I c,I a] 33 (0,0))∧Keeps (fun k=>k=R0∨k=R1) w w':=by
 obtain⟨g0,g1,z0,z1,hR0⟩:=aT h0;obtain⟨e0,e1,y0,y1,hR1⟩:=aT h1;have H0:=Lib.hid h0;have H1:=Lib.hid h1;clear h0 h1;have hta:∀w:World,(Instr.typeAssert (.iface 33 (.agg #[I c,I a])) 20 33 false).run Tryz.prog w= .ok (.agg #[I c,I a]) w:=fun _=>by first|rfl|kernel_rfl
 refine callsD_of_wpS Tryz.func47 rfl fun c₀ cs hu=>?_
 apply wpS_seq;apply wpS_region;simp[wpOpsS,go_sem,recoverD,hu,Tryz.ntmps47,Exit.thenS];refine wpS_of_wp ?_;have ht:#[Value.pointer (some ⟨R0,0,none⟩),Value.pointer (some ⟨R1,0,none⟩)]++((Array.replicate 7 undef).setIfInBounds 1 (Value.iface 33 (Value.agg #[I c,I a]))).setIfInBounds 0 (Value.iface 33 (Value.agg #[I c,I a]))
  =#[Value.pointer (some ⟨R0,0,none⟩),Value.pointer (some ⟨R1,0,none⟩),Value.iface 33 (Value.agg #[I c,I a]),Value.iface 33 (Value.agg #[I c,I a]),undef,undef,undef,undef,undef]:=by rfl
 rw[ht];clear ht;go_wp2_with fail;go_region
 obtain⟨b0,k0⟩:=cB H0.out (.string ⟨#[]⟩) (.slice none 0 0);have h1':=k0.heap H1.out (fun e=>hne e.symm);obtain⟨b1,k1⟩:=cB h1' (I c) (I a);have b0':=k1.heap b0 hne;have kd:=((k0.mono (T:=fun k=>k=R0∨k=R1) (fun _ _ h=> .inl h)).trans k1 (fun _ _ h=> .inr h)).trans (Keeps.drew (S:=fun _=>False) _) (fun _ _ h=>h.elim);show bodyPostS _ _ _ _ _ _ _ _ _
 simp[bodyPostS,results,Tryz.results47,hu];exact⟨b0',b1,kd⟩
theorem qX (w:World) (p0 p1:Value):
  CallsD Tryz.prog 47 #[p0,p1] .returning w fun e u' w'=>e= .returned (.tuple #[])∧u'= .returning∧w'=w:=by
 refine callsD_of_wpS Tryz.func47 rfl fun c₀ cs hu=>?_
 apply wpS_seq;apply wpS_region;simp[wpOpsS,go_sem,recoverD,hu,Tryz.ntmps47,Exit.thenS];refine wpS_of_wp ?_;have ht:#[p0,p1]++((Array.replicate 7 undef).setIfInBounds 1 Value.nilIface).setIfInBounds 0 Value.nilIface=#[p0,p1,Value.nilIface,Value.nilIface,undef,undef,undef,undef,undef]:=by rfl
 rw[ht];clear ht;go_wp2_with fail;show bodyPostS _ _ _ _ _ _ _ _ _
 cases c₀
 simp_all[bodyPostS,results,Tryz.results47]
def A6 (w:World) (res:Except (Int×Nat) LSk) (e:Ending) (w':World):Prop:=match res with
 | .error (c,a)=>e= .returned (.tuple #[.agg #[.string ⟨#[]⟩,.slice none 0 0],.agg #[I c,I (a:Int)]])∧New w w'
 | .ok x=>∃s:Sk,s.bare=x.mem∧e= .returned (.tuple #[s.v,.agg #[I 0,I 0]])∧SkOwn w' w.heap.size s∧New w w'
theorem SkOwn.oth {S:Nat->Prop} {w w':World} {B:Nat} {s:Sk} (h:SkOwn w B s) (k:Keeps S w w') (hS:∀g,S g->∃cur t fr,w.heap[g]? =some (.cells cur t fr)∧t≠ItT∧t≠3):SkOwn w' B s:=
 ⟨al h.io k (fun g hg=>by obtain⟨c,t,f,h1,h2,_⟩:=hS g hg;exact⟨c,t,f,h1,h2⟩),fun x hx=>al (h.nx x hx) k (fun g hg=>by obtain⟨c,t,f,h1,_,h2⟩:=hS g hg;exact⟨c,t,f,h1,h2⟩),h.ap⟩
theorem SkOwn.base {w:World} {B B':Nat} {s:Sk} (h:SkOwn w B s) (hb:B'<=B):SkOwn w B' s:=
 ⟨eO h.io (fun k hk=>by have:=(ai h.io (aM hk)).1;omega),fun x hx=>(h.nx x hx).base hb,h.ap⟩
structure PsS (w:World) (G M:Nat) (l:List LTok) (a:Option Addr) (c k:Nat) (s:Sk) (acc:List LIt) (wr:World):Prop where
 p:PAt wr G l a c k
 sk:SkB wr M w.heap.size s
 f:wr.heap[w.heap.size+1]? =some (.cells #[I 0,I 0] 33 (0,0))
 it:s.items.map SIt.bare=acc.map fun x=>x.mem none 0
 nw:New w wr
 hM:M<=wr.heap.size
 g1:w.heap.size+2<=G
 g2:G<M
 ha:∀g,blk a g->w.heap.size+2<=g∧g<M
section
variable {w:World} {G M:Nat} {l:List LTok} {a:Option Addr} {c k:Nat} {s:Sk} {acc:List LIt} {wr w':World}
theorem PsS.new (h:PsS w G M l a c k s acc wr) (n:New wr w'):PsS w G M l a c k s acc w':=
 ⟨h.p.new n,h.sk.new n,Keeps.heap n h.f (fun h=>h),h.it,h.nw.trans n,Nat.le_trans h.hM n.size,h.g1,h.g2,h.ha⟩
theorem PsS.call {k':Nat} (h:PsS w G M l a c k s acc wr) (hp:PAt w' G l a c k') (hk:Keeps (fun b=>b=G) wr w'):PsS w G M l a c k' s acc w':=
 ⟨hp,⟨hk.heap h.sk.blkP (by have:=h.g1;omega),h.sk.own.oth hk (fun g hg=>⟨_,_,_,hg▸h.p.bk,by decide,by decide⟩)⟩,hk.heap h.f (by have:=h.g1;omega),h.it,h.nw.keeps hk (fun i hi e=>by have:=h.g1;omega),Nat.le_trans h.hM hk.size,h.g1,h.g2,h.ha⟩
theorem PsS.bad (h:PsS w G M l a c k s acc wr) (hk:Keeps (fun b=>b=G) wr w'):w'.heap[w.heap.size]? =some (.cells s.cs 52 (0,0))∧w'.heap[w.heap.size+1]? =some (.cells #[I 0,I 0] 33 (0,0))∧New w w':=
 ⟨hk.heap h.sk.blkP (by have:=h.g1;omega),hk.heap h.f (by have:=h.g1;omega),h.nw.keeps hk (fun i hi e=>by have:=h.g1;omega)⟩
theorem PsS.name (h:PsS w G M l a c k s acc wr) (v:ByteArray):PsS w G M l a c k { s with name:=v } acc (wr.setCell ⟨w.heap.size,0,none⟩ (.string v)):=by
 have ks:Keeps (fun b=>b=w.heap.size) wr (wr.setCell ⟨w.heap.size,0,none⟩ (.string v)):=Keeps.setCell wr _ _ rfl;have g1:=h.g1;have hb:=block_setCell (i:=0) h.sk.blkP (.string v);exact⟨h.p.keeps ks (by omega) (fun g hg e=>by have:=h.ha g hg;omega),⟨by rw[hb];simp,have:=h.sk.own.oth ks (fun g hg=>⟨_,_,_,hg▸h.sk.blkP,by decide,by decide⟩);⟨this.io,this.nx,this.ap⟩⟩,ks.heap h.f (by omega),h.it,h.nw.keeps ks (fun i hi e=>by omega),Nat.le_trans h.hM ks.size,h.g1,h.g2,h.ha⟩
theorem PsS.add {w2 w3:World} (h:PsS w G M l a c k s acc wr) {k':Nat} (hp:PAt w2 G l a c k') (kG:Keeps (fun b=>b=G) wr w2) (x:LIt) {ao:Option Addr} {co:Nat} (hx:bc w2 wr.heap.size ao co x.xs)
  {w1:World} (kl:New w2 w1) {a':Option Addr} {c':Nat} (ho:w3.ownsRow M ItT 11 (.slice a' (s.items.length+1) c') (s.items.length+1) (s.items.flatMap br++br (x.mem ao co))) (hk:Keeps (blk s.ia) w1 w3):
  (w3.cell? ⟨w.heap.size,1,none⟩=some (.slice s.ia s.items.length s.ic)∧w3.frozen? ⟨w.heap.size,1,none⟩=false∧w.heap.size<w3.heap.size)∧
  PsS w G M l a c k' { s with ia:=a',ic:=c',items:=s.items++[x.mem ao co] } (acc++[x]) (w3.setCell ⟨w.heap.size,1,none⟩ (.slice a' (s.items.length+1) c')):=by
 have h2:=h.call hp kG;have hM2:=h.hM;have g1:=h.g1;have g2:=h.g2;have h3:SkB w2 M w.heap.size s:=h2.sk;have hx2:bc w1 M (x.mem ao co).a (x.mem ao co).c (x.mem ao co).xs:=bc.base (kl.owns hx) hM2;have hsb:∀g,blk s.ia g->M<=g∧g<w2.heap.size:=fun g hg=>ai h3.own.io hg
 have bi:∀g,blk (x.mem ao co).a g->wr.heap.size<=g:=fun g hg=>(ai hx hg).1
 have hd:∀g,blk (x.mem ao co).a g->∀y∈s.items,¬blk y.a g:=fun g hg y hy hb=>by
  have h1:=(ai (h.sk.own.nx y hy) hb).2;have h4:=bi g hg;omega
 have cw:∀g,blk s.ia g->∃cur,w1.heap[g]? =some (.cells cur ItT (0,0)):=fun g hg=>aL (kl.owns h3.own.io) (aV hg)
 have hto:∀e:TypeId,ItT≠e->∀g,blk s.ia g->∃cur t fr,w1.heap[g]? =some (.cells cur t fr)∧t≠e:=fun e he g hg=>by
  obtain⟨cur,hc⟩:=cw g hg;exact⟨cur,_,_,hc,he⟩
 have hP1:=Keeps.heap kl h3.blkP (fun h=>h);have hP3:=hk.heap hP1 (fun hb=>by have:=hsb _ hb;omega);have hP4:=block_setCell (i:=1) hP3 (.slice a' (s.items.length+1) c');have hks:Keeps (fun k=>k=w.heap.size) w3 (w3.setCell ⟨w.heap.size,1,none⟩ (.slice a' (s.items.length+1) c')):=Keeps.setCell w3 _ _ rfl;have htP:∀e:TypeId,52≠e->∀g,g=w.heap.size->∃cur t fr,w3.heap[g]? =some (.cells cur t fr)∧t≠e:=fun e he g hg=>⟨_,_,_,hg▸hP3,he⟩
 have kn:New w1 w1:=New.refl _;refine⟨⟨?_,unfrozen_of_block hP3 1,(Array.getElem?_eq_some_iff.1 hP3).1⟩,?_,⟨?_,?_,?_,?_⟩,?_,?_,?_,?_,h.g1,h.g2,h.ha⟩
 ·rw[cell_of_block hP3 1];rfl
 ·exact((hp.new kl).keeps hk (fun hb=>by have:=hsb _ hb;omega) (fun g hg hb=>by have h5:=hsb _ hb;have h6:=h.ha g hg;omega)).keeps hks (by omega) (fun g hg e=>by have h6:=h.ha g hg;omega)
 ·rw[hP4];simp
 ·have:=al ho hks (htP _ (by decide));simpa using this
 ·intro y hy;rcases List.mem_append.1 hy with hy|hy
  ·exact al (al (kl.owns (h3.own.nx y hy)) hk (hto _ (by decide))) hks (htP _ (by decide))
  ·rw[List.mem_singleton.1 hy];exact al (al hx2 hk (hto _ (by decide))) hks (htP _ (by decide))
 ·simp only[List.map_append,List.map_cons,List.map_nil];rw[List.pairwise_append];refine⟨h.sk.own.ap,List.pairwise_singleton _ _,fun b hb c hc=>?_⟩;rw[List.mem_singleton.1 hc];intro k hk1 hk2;obtain⟨y,hy,rfl⟩:=List.mem_map.1 hb;exact hd k hk2 y hy hk1
 ·exact hks.heap (hk.heap (Keeps.heap kl h2.f (fun h=>h)) (fun hb=>by have:=hsb _ hb;omega)) (by omega)
 ·show(s.items++[x.mem ao co]).map SIt.bare=(acc++[x]).map _
  rw[List.map_append,List.map_append,h.it];rfl
 ·exact((h2.nw.trans kl).keeps hk (fun i hi hb=>by have:=hsb _ hb;have:=h.nw.size;omega)).keeps hks (fun i hi e=>by omega)
 ·have a1:=kG.size;have a2:=kl.size;have a3:=hk.size;have a4:=hks.size;omega
end
theorem oQ {s:List UInt8} {l:List LTok} {c:Int} {k:Nat} (h:eR s=(l,c,k)) (hc:c≠0):cz s= .error (c,k):=by unfold cz;rw[h];simp only;rw[if_pos hc]
theorem oR {s:List UInt8} {l:List LTok} (h:eR s=(l,0,0)):cz s=match cV l with| .good x _=> .ok x| .bad j=> .error (50,atT l j):=by unfold cz;rw[h];simp only;rw[if_neg (by simp)];rfl
theorem pU (w:World) (s:ByteArray) (he:Env w) (hs:s.size<=9223372036854775807):
  Calls Tryz.prog 23 #[.string s] w (A6 w (cz s.data.toList)):=by
 have hmf:∀(fn:Fn) (first cap:Array Value) (w:World),(Instr.makeFunc fn first cap).run Tryz.prog w= .ok (.func fn first cap) w:=fun _ _ _ _=>rfl
 obtain⟨⟨l,c,k⟩,hA⟩:∃r,eR s.data.toList=r:=⟨_,rfl⟩
 have n0:New w ((w.alloc (.cells #[.string ⟨#[]⟩,.slice none 0 0] 52)).alloc (.cells #[I 0,I 0] 33)):=((New.refl w).alloc _).alloc _;have hb0:((w.alloc (.cells #[.string ⟨#[]⟩,.slice none 0 0] 52)).alloc (.cells #[I 0,I 0] 33)).heap[w.heap.size]? =some (.cells #[.string ⟨#[]⟩,.slice none 0 0] 52 (0,0)):=Keeps.heap (Keeps.alloc (S:=fun _=>False) _ _) (heap_alloc_new w _) (fun h=>h);have hb1:((w.alloc (.cells #[.string ⟨#[]⟩,.slice none 0 0] 52)).alloc (.cells #[I 0,I 0] 33)).heap[w.heap.size+1]? =some (.cells #[I 0,I 0] 33 (0,0)):=by
  have:=heap_alloc_new (w.alloc (.cells #[.string ⟨#[]⟩,.slice none 0 0] 52)) (.cells #[I 0,I 0] 33);simpa using this
 have bh:=xF _ s (he.new n0) hs;unfold iR at bh;rw[hA] at bh;simp only at bh;have yd:=gh hA;have HA:=Lib.hid hA;have HN0:=Lib.hid n0;have HB0:=Lib.hid hb0;have HB1:=Lib.hid hb1;clear hA n0 hb0 hb1;obtain⟨it,hit,hz0,hz1,hz2⟩:=info_parts oA;rcases yd with⟨rfl,rfl,hne,-,-⟩|⟨hc,rfl⟩
 ·have hl:=(pH HA.out)
  have yb:=(lm (l:=s.data.toList)).1;rw[HA.out] at yb;simp only at yb;have aU:0<l.length:=List.length_pos_iff.2 hne;obtain⟨res,eC⟩:∃r,cz s.data.toList=r:=⟨_,rfl⟩
  rw[eC];have da:Hid ((match cV l with| .good x _=>Except.ok x| .bad j=> .error (50,atT l j))=res):=Lib.hid (by rw[<-oR HA.out];exact eC);clear eC hne;have d0:((0:Int) != 0)=false:=by decide
  go_enter_defers Tryz.func23,Tryz.ntmps23
  go_wp2_with fail;refine bh.mono ?_;rintro e w1 ⟨a,cc,rfl,n1,ho⟩;have hs1:w.heap.size+2<=w1.heap.size:=by have:=n1.size;simp at this;omega
  have hbl:∀g,blk a g->w.heap.size+2<=g∧g<w1.heap.size:=fun g hg=>by
   have:=ai ho hg;simp at this;omega
  have hsl:=ar.of_owns ho;obtain⟨n,hn⟩:∃n,l.length=n:=⟨_,rfl⟩
  have HN:=Lib.hid hn;obtain⟨W2,hW2⟩:∃W,W=(w1.alloc (.cells #[I 0,I 0] 33)).alloc (.cells #[.slice a n cc,I 0] 95):=⟨_,rfl⟩
  have n2:New w1 W2:=by rw[hW2];exact((New.refl _).alloc _).alloc _
  have DW:W2.heap.size=w1.heap.size+2:=by rw[hW2];simp
  have hG:W2.heap[w1.heap.size+1]? =some (.cells #[.slice a l.length cc,I (0:Nat)] 95 (0,0)):=by
   have:=heap_alloc_new (w1.alloc (.cells #[I 0,I 0] 33)) (.cells #[.slice a n cc,I 0] 95);rw[hW2,hn];simpa using this
  have hS0:PsS w (w1.heap.size+1) (w1.heap.size+2) l a cc 0 ⟨⟨#[]⟩,none,0,[]⟩ [] W2:=
   ⟨⟨hG,hsl.new n2,fun h=>by have:=hbl _ h;omega,by omega⟩,⟨Keeps.heap (n1.trans n2) HB0.out (fun h=>h),⟨World.ownsRow_nil _ _ _ _,(fun x hx=>by cases hx),List.Pairwise.nil⟩⟩,Keeps.heap (n1.trans n2) HB1.out (fun h=>h),rfl,(HN0.out.trans n1).trans n2,by omega,by omega,by omega,fun g hg=>by have:=hbl g hg;omega⟩
  obtain⟨f0,-,-,-,hF⟩:=aT (heap_alloc_new w1 (.cells #[I 0,I 0] 33));have HW2:=Lib.hid hW2;have HS0:=Lib.hid hS0;have hnx:=cY W2 _ l a cc 0 hS0.p aU l[0] (List.getElem?_eq_getElem aU);have hgt:=List.getElem?_eq_getElem aU;obtain⟨t,ht⟩:∃t,l[0]=t:=⟨_,rfl⟩
  rw[ht] at hnx hgt;clear ht;obtain⟨so,tx,nu,at_⟩:=t;simp only[iB] at hnx;obtain⟨T,hT⟩:∃T:ByteArray,(⟨tx.toArray⟩:ByteArray)=T:=⟨_,rfl⟩
  rw[hT] at hnx;have htx:=gR tx [103,114,97,112,104];rw[hT] at htx;have HT:=Lib.hid hT;have HG:=Lib.hid hgt;have hlk:=dg (so:=1) (b:=fe) hgt;simp only at hlk;have fx:=fun W=>(dA (.int .u8 so) (.string T) (I nu) (I (at_:Int)) W).2.1
  rw[hn];generalize hGG:w1.heap.size+1=G at HS0 hnx;generalize hMM:w1.heap.size+2=M at HS0;have HGG:=Lib.hid hGG;clear hn hsl ho hbl n1 n2 DW hG hS0 hW2 hgt hT yb bh hGG hMM;have hgw:=HS0.out.g1;have hgm:=HS0.out.g2;by_cases hw:tx=fe
  ·have t1:=mu htx hw;clear htx;go_wp2_with fail;rw[HGG.out,<-HW2.out];refine hnx.mono ?_;rintro e w3 ⟨rfl,n3⟩;have HS3:=Lib.hid (HS0.out.new n3);clear hnx HS0 n3 f0 hF;have htk:=ew _ G l a cc 0 1 HS3.out.p aU;rw[cO HG.out] at htk;by_cases hs1:so=1
   ·subst hs1;rw[if_pos rfl] at htk;have hk1:=hl.next HG.out (by show(1:Int)≠0;decide);rw[decide_eq_true ⟨rfl,hw⟩] at hlk;have HM0:Hid (bC 1 fe l 0= .good () 1):=Lib.hid (by unfold bC;rw[if_pos hlk]);clear hw hlk;go_wp2_with fail;refine htk.mono ?_;rintro e w4 ⟨rfl,hp4,kk4⟩;have HS4:=Lib.hid (HS3.out.call hp4 kk4);have htk:=ew _ G l a cc (0+1) 1 HS4.out.p hk1;clear hp4 kk4 HS3;go_wp2_with fail;refine htk.mono ?_;intro e w5 hq;clear htk;rcases hq.inv with⟨j,hr,rfl,kb⟩|⟨t5,k5,hr,rfl,hp5,kk5⟩
    ·clear hq;obtain⟨hb0,hb1,hN⟩:=HS4.out.bad kb;have HPP:Hid (cV l= .bad j):=Lib.hid (by unfold cV;rw[HM0.out,PR.bind_good,hr,PR.bind_bad]);clear hr kb;go_wp2
     unfold gu;refine leaves_cons (f:=47) (args:=#[.pointer (some ⟨w.heap.size,0,none⟩),.pointer (some ⟨w.heap.size+1,0,none⟩)]) (by simp) (by simp[go_sem]) ?_;refine(eP w5 w.heap.size (w.heap.size+1) _ _ _ _ 50 (atT l j) [] (by omega) hb0 hb1).mono ?_;rintro e u' w'' ⟨rfl,rfl,h0,h1,hk⟩;obtain⟨g0,g1,-,-,-⟩:=aT h0;obtain⟨e0,e1,-,-,-⟩:=aT h1;simp[Leaves,settle,results,Tryz.results23,go_sem,g0,g1,e0,e1];rw[<-da.out,HPP.out];exact⟨rfl,hN.keeps hk (fun i hi hb=>by omega)⟩
    ·have HR5:=Lib.hid hr;have hk5:=(hl.take hr (by decide)).1;obtain⟨so5,tx5,nu5,at5⟩:=t5;obtain⟨T5,hT5⟩:∃T:ByteArray,(⟨tx5.toArray⟩:ByteArray)=T:=⟨_,rfl⟩
     simp only[iB,hT5];have HT5:=Lib.hid hT5;have f1:=fun W=>(dA (.int .u8 so5) (.string T5) (I nu5) (I (at5:Int)) W).2.1
     have hS5:=HS4.out.call hp5 kk5;obtain⟨r0,-,z0,-,hR0⟩:=aT hS5.sk.blkP;have HS6:=Lib.hid (hS5.name T5);have hmk:=dM _ G l a cc k5 [123] HS6.out.p hk5;clear hq hr hp5 kk5 HS4 hT5 hS5;go_wp2_with fail;refine hmk.mono ?_;intro e w6 hq;clear hmk r0 z0 hR0;rcases hq.inv with⟨j,hr,rfl,kb⟩|⟨u,k6,hr,rfl,hp6,kk6⟩
     ·clear hq;obtain⟨hb0,hb1,hN⟩:=HS6.out.bad kb;have HPP:Hid (cV l= .bad j):=Lib.hid (by unfold cV;rw[HM0.out,PR.bind_good,HR5.out,PR.bind_good,hr,PR.bind_bad]);clear hr kb;go_wp2
      unfold gu;refine leaves_cons (f:=47) (args:=#[.pointer (some ⟨w.heap.size,0,none⟩),.pointer (some ⟨w.heap.size+1,0,none⟩)]) (by simp) (by simp[go_sem]) ?_;refine(eP w6 w.heap.size (w.heap.size+1) _ _ _ _ 50 (atT l j) [] (by omega) hb0 hb1).mono ?_;rintro e u' w'' ⟨rfl,rfl,h0,h1,hk⟩;obtain⟨g0,g1,-,-,-⟩:=aT h0;obtain⟨e0,e1,-,-,-⟩:=aT h1;simp[Leaves,settle,results,Tryz.results23,go_sem,g0,g1,e0,e1];rw[<-da.out,HPP.out];exact⟨rfl,hN.keeps hk (fun i hi hb=>by omega)⟩
     ·have HR6:=Lib.hid hr;have hk6:=(hl.must hr (by decide)).1;have HS7:=Lib.hid (HS6.out.call hp6 kk6);have HPP:Hid (cV l=(bJ l.length l k6).bind fun xs k4=>(bC 3 [125] l k4).bind fun _ k5=>(cp 0 l k5).bind fun _ k6=> .good ⟨tx5,xs⟩ k6):=Lib.hid (by unfold cV;rw[HM0.out,PR.bind_good,HR5.out,PR.bind_good,hr,PR.bind_good]);clear hq hr hp6 kk6 HS6 fx f1 HR5 HR6 HM0;go_wp2_with fail;go_loopw [] (fun wr=>∃(k':Nat) (s':Sk) (acc:List LIt) (f:Nat),Hid (PsS w G M l a cc k' s' acc wr)∧Hid (s'.name=T5∧bJ l.length l k6=(bJ f l k').bind fun xs m=> .good (acc++xs) m)∧k'<l.length∧l.length<=k'+f∧s'.items.length<=k') (fun wr=>l.length-fB wr G)
      case atStart=>exact⟨k6,_,[],l.length,HS7,Lib.hid ⟨rfl,by simp only[List.nil_append];cases bJ l.length l k6<;>rfl⟩,hk6,by omega,Nat.zero_le _⟩
      case round=>
       clear HS7 hk6;obtain⟨k',s',acc,f,HS,HI,hk',hf,hil⟩:=hrel;obtain⟨f,rfl⟩:∃f',f=f'+1:=⟨f-1,by omega⟩
       have HY:Hid (fB wr G=k'):=Lib.hid (by unfold fB;rw[HS.out.p.cells.2.1];simp);have hnx:=fun W (n:New wr W)=>cY W G l a cc k' (HS.out.p.new n) hk' l[k'] (List.getElem?_eq_getElem hk')
       have hlk:=dg (so:=3) (b:=[125]) (List.getElem?_eq_getElem hk');have hgt:=List.getElem?_eq_getElem hk';obtain⟨t,ht⟩:∃t,l[k']=t:=⟨_,rfl⟩
       rw[ht] at hnx hlk hgt;clear ht;obtain⟨so7,tx7,nu7,at7⟩:=t;obtain⟨T7,hT7⟩:∃T:ByteArray,(⟨tx7.toArray⟩:ByteArray)=T:=⟨_,rfl⟩
       simp only[iB,hT7] at hnx hlk;have htx:=gR tx7 [125];rw[hT7] at htx;have g0:=fun W=>(dA (.int .u8 so7) (.string T7) (I nu7) (I (at7:Int)) W).1
       have g1:=fun W=>(dA (.int .u8 so7) (.string T7) (I nu7) (I (at7:Int)) W).2.1
       clear hT7 hgt;by_cases tt:so7=3∧tx7=[125]
       ·obtain⟨rfl,hte⟩:=tt;have t7:=mu htx hte;rw[decide_eq_true ⟨rfl,hte⟩] at hlk;have hmm:bC 3 [125] l k'= .good () (k'+1):=by unfold bC;rw[if_pos hlk]
        have HIT:Hid (bJ l.length l k6= .good acc k'):=Lib.hid (by rw[HI.out.2,bJ,if_pos hlk,PR.bind_good,List.append_nil]);have hk8:=(hl.must hmm (by decide)).1;have hmk:=fun W (n:New wr W)=>sr W G l a cc k' (HS.out.p.new n) hk' [125] hmm
        have HMM:=Lib.hid hmm;have d3:((3:Int) != 3)=false:=by decide
        clear htx hte hlk hmm;go_wp2_with fail;refine(hnx _ (New.refl _)).mono ?_;rintro e w7 ⟨rfl,n7⟩;go_wp2_with fail;refine(hnx _ n7).mono ?_;rintro e w8 ⟨rfl,n8⟩;go_wp2_with fail;refine(hmk _ (n7.trans n8)).mono ?_;rintro e w9 ⟨rfl,hp9,kk9⟩;have HS9:=Lib.hid ((HS.out.new (n7.trans n8)).call hp9 kk9);have htk:=ew _ G l a cc (k'+1) 0 HS9.out.p hk8;clear n7 n8 hnx hmk hp9 kk9 HS;go_wp2_with fail;refine htk.mono ?_;intro e w10 hq;clear htk;rcases hq.inv with⟨j,hr,rfl,kb⟩|⟨t9,k9,hr,rfl,hp10,kk10⟩
        ·clear hq;obtain⟨hb0,hb1,hN⟩:=HS9.out.bad kb;have HPQ:Hid (cV l= .bad j):=Lib.hid (by rw[HPP.out,HIT.out,PR.bind_good,HMM.out,PR.bind_good,hr,PR.bind_bad]);clear hr kb;go_wp2
         unfold gu;refine leaves_cons (f:=47) (args:=#[.pointer (some ⟨w.heap.size,0,none⟩),.pointer (some ⟨w.heap.size+1,0,none⟩)]) (by simp) (by simp[go_sem]) ?_;refine(eP w10 w.heap.size (w.heap.size+1) _ _ _ _ 50 (atT l j) [] (by omega) hb0 hb1).mono ?_;rintro e u' w'' ⟨rfl,rfl,h0,h1,hk⟩;obtain⟨g0,g1,-,-,-⟩:=aT h0;obtain⟨e0,e1,-,-,-⟩:=aT h1;simp[Leaves,settle,results,Tryz.results23,go_sem,g0,g1,e0,e1];rw[<-da.out,HPQ.out];exact⟨rfl,hN.keeps hk (fun i hi hb=>by omega)⟩
        ·have HPQ:Hid (cV l= .good ⟨tx5,acc⟩ k9):=Lib.hid (by rw[HPP.out,HIT.out,PR.bind_good,HMM.out,PR.bind_good,hr,PR.bind_good]);have lT:=HS9.out.call hp10 kk10;obtain⟨r0,r1,z0,z1,hR0⟩:=aT lT.sk.blkP;obtain⟨e0,e1,y0,y1,hR1⟩:=aT lT.f;have Cc:=Lib.hid lT;clear hq hr hp10 kk10 HS9 lT;go_wp2_with fail;have lT:=Cc.out;obtain⟨b0,k0⟩:=cB lT.sk.blkP (.string s'.name) (.slice s'.ia s'.items.length s'.ic);have h1':=k0.heap lT.f (by omega);obtain⟨b1,k1⟩:=cB h1' (I 0) (I 0);have b0':=k1.heap b0 (by omega);have kd:=((k0.mono (T:=fun k=>k=w.heap.size∨k=w.heap.size+1) (fun _ _ h=> .inl h)).trans k1 (fun _ _ h=> .inr h))
         have dj:=lT.nw.keeps kd (fun i hi h=>by rcases h with h|h<;>omega);have aK:=(lT.sk.own.oth kd (fun g hg=>by
          rcases hg with rfl|rfl
          ·exact⟨_,_,_,lT.sk.blkP,by decide,by decide⟩
          ·exact⟨_,_,_,lT.f,by decide,by decide⟩)).base (B':=w.heap.size) (by have:=lT.g1;have:=lT.g2;omega)
         clear k0 b0 kd h1' k1 r0 r1 z0 z1 hR0 e0 e1 y0 y1 hR1 Cc;obtain⟨wf,hwf⟩:∃x,x=((((w10.setCell ⟨w.heap.size,0,none⟩ (.string s'.name)).setCell ⟨w.heap.size,1,none⟩ (.slice s'.ia s'.items.length s'.ic)).setCell ⟨w.heap.size+1,0,none⟩ (I 0)).setCell ⟨w.heap.size+1,1,none⟩ (I 0)):=⟨_,rfl⟩
         rw[<-hwf] at b0' b1 dj aK ⊢;clear hwf;obtain⟨c0,c1,-,-,-⟩:=aT b0';obtain⟨e0,e1,-,-,-⟩:=aT b1;refine leaves_cons (f:=47) (args:=#[.pointer (some ⟨w.heap.size,0,none⟩),.pointer (some ⟨w.heap.size+1,0,none⟩)]) (by simp) (by simp[go_sem]) ?_;refine(qX wf _ _).mono ?_;rintro e u' w'' ⟨rfl,rfl,rfl⟩;simp[Leaves,settle,results,Tryz.results23,go_sem,c0,c1,e0,e1];rw[<-da.out,HPQ.out];refine⟨s',?_,rfl,aK,dj⟩;unfold Sk.bare LSk.mem;rw[lT.it,HI.out.1,HT5.out]
       ·have hlf:ce 3 [125] l k'=false:=by rw[hlk];exact decide_eq_false tt
        have HLF:=Lib.hid hlf;have HIX:Hid (bJ l.length l k6=(bN l k').bind fun x k1=>(bJ f l k1).bind fun xs m=> .good ((acc++[x])++xs) m):=Lib.hid (by
         rw[HI.out.2,bJ,if_neg (by rw[hlf];decide),PR.bind_assoc];congr 1;funext x k1
         rw[PR.bind_assoc];congr 1;funext xs m
         simp)
        have hN:∃z:Bool,z=decide (so7=3):=⟨_,rfl⟩
        clear hlf hlk hN;by_cases h3:so7=3
        ·subst h3;have t7:=gJ htx (fun h=>tt ⟨rfl,h⟩);have d3:((3:Int) != 3)=false:=by decide
         clear htx tt;go_wp2_with fail;refine(hnx _ (New.refl _)).mono ?_;rintro e w7 ⟨rfl,n7⟩;go_wp2_with fail;refine(hnx _ n7).mono ?_;rintro e w8 ⟨rfl,n8⟩;have HS8:=Lib.hid (HS.out.new (n7.trans n8));clear n7 n8 hnx HS;go_wp2_with fail;have hS8:=HS8.out.new ((New.refl w8).drew);have hdr:New w8 w8.drew:=(New.refl w8).drew;obtain⟨-,p1,-,-,hPl⟩:=aT hS8.sk.blkP;have hS0:(fun w':World=>w'.cell? ⟨w.heap.size,1,none⟩=some (.slice s'.ia s'.items.length s'.ic)) w8.drew:=p1;have hpi:=pW w8.drew G l a cc k' hl hS8.p hk';clear p1 hPl;refine aj (fun w':World=>w'.cell? ⟨w.heap.size,1,none⟩=some (.slice s'.ia s'.items.length s'.ic)) [5,6,7] (by kernel_rfl) hS0 ?_;refine aS 0 (by kernel_rfl) (by kernel_rfl) (by kernel_rfl) (by kernel_rfl) (by kernel_rfl) hS0 ?_;intro oi ho;simp only[sLq] at ho;subst ho;refine⟨?_,fun c a w h=>gf (gU _ _ _ (by decide) (by decide)) a.defers (.panicking c) w h,Or.inl ⟨by rfl,?_⟩,?_⟩;rotate_left 1
         ·(intro wS hSw;(try dsimp only at hSw);go_simp;try with_reducible rfl)
         simp only[Act.put,sLs];refine aS 1 (by kernel_rfl) (by kernel_rfl) (by kernel_rfl) (by kernel_rfl) (by kernel_rfl) hS0 ?_;intro oi ho;simp only[sLq] at ho;subst ho;refine⟨?_,fun c a w h=>gf (gU _ _ _ (by decide) (by decide)) a.defers (.panicking c) w h,Or.inl ⟨by rfl,?_⟩,?_⟩;rotate_left 1
         ·(intro wS hSw;(try dsimp only at hSw);go_simp;try with_reducible rfl)
         simp only[Act.put,sLs];refine aS 2 (by kernel_rfl) (by kernel_rfl) (by kernel_rfl) (by kernel_rfl) (by kernel_rfl) hS0 ?_;intro oi ho;simp only[sLq] at ho;subst ho;refine⟨?_,fun c a w h=>gf (gU _ _ _ (by decide) (by decide)) a.defers (.panicking c) w h,Or.inl ⟨by rfl,?_⟩,?_⟩;rotate_left 1
         ·(intro wS hSw;(try dsimp only at hSw);go_simp;try with_reducible rfl)
         simp only[Act.put,sLs];refine ag 3 ?_;intro K hK;(try simp only[Act.put,sLs])
         go_simp;refine hpi.mono ?_;intro e w9 hq;unfold fL at hq;cases hr:bN l k' with
         |bad j=>
          rw[hr] at hq;obtain⟨rfl,kb⟩:=hq;obtain⟨hb0,hb1,hN⟩:=hS8.bad kb;have HPQ:Hid (cV l= .bad j):=Lib.hid (by rw[HPP.out,HIX.out,hr,PR.bind_bad,PR.bind_bad]);clear hr kb hS0 hpi hS8;simp only[Exit.then,bodyPostD];unfold gu;refine leaves_cons (f:=47) (args:=#[.pointer (some ⟨w.heap.size,0,none⟩),.pointer (some ⟨w.heap.size+1,0,none⟩)]) (by simp) (by simp[go_sem]) ?_;refine(eP w9 w.heap.size (w.heap.size+1) _ _ _ _ 50 (atT l j) [] (by omega) hb0 hb1).mono ?_;rintro e u' w'' ⟨rfl,rfl,h0,h1,hk⟩;obtain⟨g0,g1,-,-,-⟩:=aT h0;obtain⟨e0,e1,-,-,-⟩:=aT h1;simp[Leaves,settle,results,Tryz.results23,go_sem,g0,g1,e0,e1];rw[<-da.out,HPQ.out];exact⟨rfl,hN.keeps hk (fun i hi hb=>by omega)⟩
         |good x k9=>
         rw[hr] at hq;obtain⟨ao,co,rfl,hox,hp9,kk9⟩:=hq;have hk9:=hl.item hr;have HIN:Hid (bJ l.length l k6=(bJ f l k9).bind fun xs m=> .good ((acc++[x])++xs) m):=Lib.hid (by rw[HIX.out,hr,PR.bind_good]);have hS1:(fun w':World=>w'.cell? ⟨w.heap.size,1,none⟩=some (.slice s'.ia s'.items.length s'.ic)) w9:=kk9.cell hS0 (by show w.heap.size≠G;omega);have HXS:=Lib.hid hS8;have HOX:=Lib.hid hox;have HPX:=Lib.hid (And.intro hp9 kk9);refine hK _ _ (fun _=>hS1) ?_;clear hK K hr hpi hS0 hox hp9 kk9 hS8;refine ag 4 ?_;intro K hK;(try simp only[Act.put,sLs])
         go_simp;have kl:New w9 (w9.alloc (.cells (itA (x.mem ao co)) ItT)):=(New.refl w9).alloc _;have bi:ar (w9.alloc (.cells (itA (x.mem ao co)) ItT)) (some ⟨w9.heap.size,0,none⟩) (br (x.mem ao co)):=ar.lit w9 _ _;refine hK _ _ (fun _=>New.cell kl hS1) ?_;clear hK K hS1;generalize(w9.alloc (.cells (itA (x.mem ao co)) ItT))=VZ at kl bi ⊢;generalize w9.heap.size=Z at bi ⊢;refine ag 5 ?_;intro K hK;refine cS rfl _ _ 50 rfl M ItT it _ 11 136 Tryz.underlying50 hit hz0 hz1 hz2 rfl (by decide) s'.ia s'.items.length s'.ic (s'.items.flatMap br) rfl (((HXS.out.call HPX.out.1 HPX.out.2).new kl).sk.own.io) (some ⟨Z,0,none⟩) 1 1 (br (x.mem ao co)) rfl rfl bi (lu _) (by have:=HXS.out.p.le;unfold maxLen;omega) (by have:=HXS.out.p.le;omega) ((HXS.out.call HPX.out.1 HPX.out.2).new kl).hM ?_;intro a9 c9 wc ij rM hmv;obtain⟨⟨hv0,hfz,lS⟩,hSn⟩:=HXS.out.add HPX.out.1 HPX.out.2 x HOX.out kl ij rM;have HSn:=Lib.hid hSn;refine hK _ _ (fun hx=>by cases hx) ?_;clear hK K hSn ij rM hmv bi kl;refine ag 6 ?_;intro K hK;(try simp only[Act.put,sLs])
         go_simp;refine hK _ _ (fun hx=>by cases hx) ?_;clear hK K;refine ag 7 ?_;intro K hK;(try simp only[Act.put,sLs])
         go_simp;refine hK _ _ (fun hx=>by cases hx) ?_;clear hK K;refine av (by kernel_rfl) ?_;(try simp only[Act.put,sLs])
         (try simp only[Exit.then])
         go_wp2_with fail;go_roundw
         case rel=>exact⟨k9,_,acc++[x],f,HSn,Lib.hid ⟨HI.out.1,HIN.out⟩,hk9.1,by omega,by rw[List.length_append];simp only[List.length_singleton];omega⟩
         case measure=>
          rw[uC HSn.out.p,HY.out];omega
        ·have d3:(so7 != 3)=true:=by simpa using h3
         clear htx tt;go_wp2_with fail;refine(hnx _ (New.refl _)).mono ?_;rintro e w8 ⟨rfl,n8⟩;have HS8:=Lib.hid (HS.out.new n8);clear n8 hnx HS;go_wp2_with fail;have hS8:=HS8.out.new ((New.refl w8).drew);have hdr:New w8 w8.drew:=(New.refl w8).drew;obtain⟨-,p1,-,-,hPl⟩:=aT hS8.sk.blkP;have hS0:(fun w':World=>w'.cell? ⟨w.heap.size,1,none⟩=some (.slice s'.ia s'.items.length s'.ic)) w8.drew:=p1;have hpi:=pW w8.drew G l a cc k' hl hS8.p hk';clear p1 hPl;refine aj (fun w':World=>w'.cell? ⟨w.heap.size,1,none⟩=some (.slice s'.ia s'.items.length s'.ic)) [5,6,7] (by kernel_rfl) hS0 ?_;refine aS 0 (by kernel_rfl) (by kernel_rfl) (by kernel_rfl) (by kernel_rfl) (by kernel_rfl) hS0 ?_;intro oi ho;simp only[sLq] at ho;subst ho;refine⟨?_,fun c a w h=>gf (gU _ _ _ (by decide) (by decide)) a.defers (.panicking c) w h,Or.inl ⟨by rfl,?_⟩,?_⟩;rotate_left 1
         ·(intro wS hSw;(try dsimp only at hSw);go_simp;try with_reducible rfl)
         simp only[Act.put,sLs];refine aS 1 (by kernel_rfl) (by kernel_rfl) (by kernel_rfl) (by kernel_rfl) (by kernel_rfl) hS0 ?_;intro oi ho;simp only[sLq] at ho;subst ho;refine⟨?_,fun c a w h=>gf (gU _ _ _ (by decide) (by decide)) a.defers (.panicking c) w h,Or.inl ⟨by rfl,?_⟩,?_⟩;rotate_left 1
         ·(intro wS hSw;(try dsimp only at hSw);go_simp;try with_reducible rfl)
         simp only[Act.put,sLs];refine aS 2 (by kernel_rfl) (by kernel_rfl) (by kernel_rfl) (by kernel_rfl) (by kernel_rfl) hS0 ?_;intro oi ho;simp only[sLq] at ho;subst ho;refine⟨?_,fun c a w h=>gf (gU _ _ _ (by decide) (by decide)) a.defers (.panicking c) w h,Or.inl ⟨by rfl,?_⟩,?_⟩;rotate_left 1
         ·(intro wS hSw;(try dsimp only at hSw);go_simp;try with_reducible rfl)
         simp only[Act.put,sLs];refine ag 3 ?_;intro K hK;(try simp only[Act.put,sLs])
         go_simp;refine hpi.mono ?_;intro e w9 hq;unfold fL at hq;cases hr:bN l k' with
         |bad j=>
          rw[hr] at hq;obtain⟨rfl,kb⟩:=hq;obtain⟨hb0,hb1,hN⟩:=hS8.bad kb;have HPQ:Hid (cV l= .bad j):=Lib.hid (by rw[HPP.out,HIX.out,hr,PR.bind_bad,PR.bind_bad]);clear hr kb hS0 hpi hS8;simp only[Exit.then,bodyPostD];unfold gu;refine leaves_cons (f:=47) (args:=#[.pointer (some ⟨w.heap.size,0,none⟩),.pointer (some ⟨w.heap.size+1,0,none⟩)]) (by simp) (by simp[go_sem]) ?_;refine(eP w9 w.heap.size (w.heap.size+1) _ _ _ _ 50 (atT l j) [] (by omega) hb0 hb1).mono ?_;rintro e u' w'' ⟨rfl,rfl,h0,h1,hk⟩;obtain⟨g0,g1,-,-,-⟩:=aT h0;obtain⟨e0,e1,-,-,-⟩:=aT h1;simp[Leaves,settle,results,Tryz.results23,go_sem,g0,g1,e0,e1];rw[<-da.out,HPQ.out];exact⟨rfl,hN.keeps hk (fun i hi hb=>by omega)⟩
         |good x k9=>
         rw[hr] at hq;obtain⟨ao,co,rfl,hox,hp9,kk9⟩:=hq;have hk9:=hl.item hr;have HIN:Hid (bJ l.length l k6=(bJ f l k9).bind fun xs m=> .good ((acc++[x])++xs) m):=Lib.hid (by rw[HIX.out,hr,PR.bind_good]);have hS1:(fun w':World=>w'.cell? ⟨w.heap.size,1,none⟩=some (.slice s'.ia s'.items.length s'.ic)) w9:=kk9.cell hS0 (by show w.heap.size≠G;omega);have HXS:=Lib.hid hS8;have HOX:=Lib.hid hox;have HPX:=Lib.hid (And.intro hp9 kk9);refine hK _ _ (fun _=>hS1) ?_;clear hK K hr hpi hS0 hox hp9 kk9 hS8;refine ag 4 ?_;intro K hK;(try simp only[Act.put,sLs])
         go_simp;have kl:New w9 (w9.alloc (.cells (itA (x.mem ao co)) ItT)):=(New.refl w9).alloc _;have bi:ar (w9.alloc (.cells (itA (x.mem ao co)) ItT)) (some ⟨w9.heap.size,0,none⟩) (br (x.mem ao co)):=ar.lit w9 _ _;refine hK _ _ (fun _=>New.cell kl hS1) ?_;clear hK K hS1;generalize(w9.alloc (.cells (itA (x.mem ao co)) ItT))=VZ at kl bi ⊢;generalize w9.heap.size=Z at bi ⊢;refine ag 5 ?_;intro K hK;refine cS rfl _ _ 50 rfl M ItT it _ 11 136 Tryz.underlying50 hit hz0 hz1 hz2 rfl (by decide) s'.ia s'.items.length s'.ic (s'.items.flatMap br) rfl (((HXS.out.call HPX.out.1 HPX.out.2).new kl).sk.own.io) (some ⟨Z,0,none⟩) 1 1 (br (x.mem ao co)) rfl rfl bi (lu _) (by have:=HXS.out.p.le;unfold maxLen;omega) (by have:=HXS.out.p.le;omega) ((HXS.out.call HPX.out.1 HPX.out.2).new kl).hM ?_;intro a9 c9 wc ij rM hmv;obtain⟨⟨hv0,hfz,lS⟩,hSn⟩:=HXS.out.add HPX.out.1 HPX.out.2 x HOX.out kl ij rM;have HSn:=Lib.hid hSn;refine hK _ _ (fun hx=>by cases hx) ?_;clear hK K hSn ij rM hmv bi kl;refine ag 6 ?_;intro K hK;(try simp only[Act.put,sLs])
         go_simp;refine hK _ _ (fun hx=>by cases hx) ?_;clear hK K;refine ag 7 ?_;intro K hK;(try simp only[Act.put,sLs])
         go_simp;refine hK _ _ (fun hx=>by cases hx) ?_;clear hK K;refine av (by kernel_rfl) ?_;(try simp only[Act.put,sLs])
         (try simp only[Exit.then])
         go_wp2_with fail;go_roundw
         case rel=>exact⟨k9,_,acc++[x],f,HSn,Lib.hid ⟨HI.out.1,HIN.out⟩,hk9.1,by omega,by rw[List.length_append];simp only[List.length_singleton];omega⟩
         case measure=>
          rw[uC HSn.out.p,HY.out];omega
   ·rw[if_neg hs1] at htk;rw[decide_eq_false (fun h=>hs1 h.1)] at hlk;have HPP:Hid (cV l= .bad 0):=Lib.hid (by unfold cV bC;rw[if_neg (by rw[hlk];decide)];rfl);clear hw hlk;go_wp2_with fail;refine htk.mono ?_;rintro e w4 ⟨rfl,kb⟩;obtain⟨hb0,hb1,hN⟩:=HS3.out.bad kb;clear kb htk HS3;go_wp2
    unfold gu;refine leaves_cons (f:=47) (args:=#[.pointer (some ⟨w.heap.size,0,none⟩),.pointer (some ⟨w.heap.size+1,0,none⟩)]) (by simp) (by simp[go_sem]) ?_;refine(eP w4 w.heap.size (w.heap.size+1) _ _ _ _ 50 (atT l 0) [] (by omega) hb0 hb1).mono ?_;rintro e u' w'' ⟨rfl,rfl,h0,h1,hk⟩;obtain⟨g0,g1,-,-,-⟩:=aT h0;obtain⟨e0,e1,-,-,-⟩:=aT h1;simp[Leaves,settle,results,Tryz.results23,go_sem,g0,g1,e0,e1];rw[<-da.out,HPP.out];exact⟨rfl,hN.keeps hk (fun i hi hb=>by omega)⟩
  ·have t1:=gJ htx hw;rw[decide_eq_false (fun h=>hw h.2)] at hlk;have HPP:Hid (cV l= .bad 0):=Lib.hid (by unfold cV bC;rw[if_neg (by rw[hlk];decide)];rfl);clear htx hw hlk;go_wp2_with fail;rw[HGG.out,<-HW2.out];refine hnx.mono ?_;rintro e w3 ⟨rfl,n3⟩;have HS3:=Lib.hid (HS0.out.new n3);have hwr:=ir _ G l a cc 0 HS3.out.p aU;clear hnx HS0 n3 f0 hF;go_wp2_with fail;refine hwr.mono ?_;rintro e w4 ⟨rfl,n4⟩;obtain⟨hb0,hb1,hN⟩:=HS3.out.bad (KN n4);clear n4 hwr HS3;go_wp2
   unfold gu;refine leaves_cons (f:=47) (args:=#[.pointer (some ⟨w.heap.size,0,none⟩),.pointer (some ⟨w.heap.size+1,0,none⟩)]) (by simp) (by simp[go_sem]) ?_;refine(eP w4 w.heap.size (w.heap.size+1) _ _ _ _ 50 (atT l 0) [] (by omega) hb0 hb1).mono ?_;rintro e u' w'' ⟨rfl,rfl,h0,h1,hk⟩;obtain⟨g0,g1,-,-,-⟩:=aT h0;obtain⟨e0,e1,-,-,-⟩:=aT h1;simp[Leaves,settle,results,Tryz.results23,go_sem,g0,g1,e0,e1];rw[<-da.out,HPP.out];exact⟨rfl,hN.keeps hk (fun i hi hb=>by omega)⟩
 ·have hc0:c≠0:=by rcases hc with⟨rfl,_⟩|⟨rfl|rfl|rfl,_⟩<;>decide
  have hc1:(c != 0)=true:=by simpa using hc0
  rw[oQ HA.out hc0];clear hc hc0;go_enter_defers Tryz.func23,Tryz.ntmps23
  go_wp2_with fail;refine bh.mono ?_;rintro e w1 ⟨a,cc,rfl,n1,-⟩;have hb0:=Keeps.heap (n1.trans ((New.refl _).alloc (.cells #[I c,I k] 33))) HB0.out (fun h=>h);have hb1:=Keeps.heap (n1.trans ((New.refl _).alloc (.cells #[I c,I k] 33))) HB1.out (fun h=>h);have hbF:=heap_alloc_new w1 (.cells #[I c,I k] 33);obtain⟨g0,g1,z0,z1,hR0⟩:=aT hb0;obtain⟨e0,e1,y0,y1,hR1⟩:=aT hb1;obtain⟨f0,f1,-,-,hF⟩:=aT hbF;have hN:=Lib.hid ((HN0.out.trans n1).trans ((New.refl _).alloc (.cells #[I c,I k] 33)));have B0:=Lib.hid hb0;have B1:=Lib.hid hb1;have hs1:w.heap.size+2<=w1.heap.size:=by have:=n1.size;simp at this;omega
  have q1:w1.heap.size≠w.heap.size:=by omega
  have q2:w.heap.size≠w1.heap.size:=by omega
  have q3:w1.heap.size≠w.heap.size+1:=by omega
  have q4:w.heap.size+1≠w1.heap.size:=by omega
  clear hb0 hb1 hbF n1;go_wp2_with fail;go_region
  obtain⟨b0,k0⟩:=cB B0.out (.string ⟨#[]⟩) (.slice none 0 0);have h1':=k0.heap B1.out (by omega);obtain⟨b1,k1⟩:=cB h1' (I c) (I k);have b0':=k1.heap b0 (by omega);have kd:=(((k0.mono (T:=fun k=>k=w.heap.size∨k=w.heap.size+1) (fun _ _ h=> .inl h)).trans k1 (fun _ _ h=> .inr h)).trans (Keeps.drew (S:=fun _=>False) _) (fun _ _ h=>h.elim))
  have dj:=hN.out.keeps kd (fun i hi h=>by rcases h with h|h<;>omega);clear k0 b0 kd h1' g0 g1 z0 z1 e0 e1 y0 y1 f0 f1 hF hR0 hR1;obtain⟨wf,hwf⟩:∃x,x=(((((w1.alloc (.cells #[I c,I k] 33)).setCell ⟨w.heap.size,0,none⟩ (.string ⟨#[]⟩)).setCell ⟨w.heap.size,1,none⟩ (.slice none 0 0)).setCell ⟨w.heap.size+1,0,none⟩ (I c)).setCell ⟨w.heap.size+1,1,none⟩ (I k)).drew:=⟨_,rfl⟩
  have b2:wf.heap[w.heap.size]? =some (.cells #[.string ⟨#[]⟩,.slice none 0 0] 52 (0,0)):=by rw[hwf];exact b0'
  have b3:wf.heap[w.heap.size+1]? =some (.cells #[I c,I k] 33 (0,0)):=by rw[hwf];exact b1
  rw[<-hwf] at dj ⊢;clear hwf b0' b1;obtain⟨c0,c1,-,-,-⟩:=aT b2;obtain⟨d0,d1,-,-,-⟩:=aT b3;simp only[Exit.then];go_wp2_with fail;simp[bodyPostD,Leaves,settle,results,Tryz.results23,go_sem,c0,c1,d0,d1];exact⟨rfl,dj⟩
structure SBnd (s:Sk):Prop where
 n:s.name.size<=9223372036854775807
 i:s.items.length<=9223372036854775807
 sz:∀x∈s.items,ISz x
 bd:∀x∈s.items,IBnd x
theorem xy {l:List SIt} {k:Nat} (h:(l.take k).all bD=true) (hk:k<l.length) (hr:bD l[k]=true):(l.take (k+1)).all bD=true:=by
 rw[List.take_succ_eq_append_getElem hk,List.all_append,h];simp[hr]
theorem zV {l:List SIt} {k:Nat} (hk:k<l.length) (hr:bD l[k]=false):l.all bD=false:=by
 cases h:l.all bD with
 |false=>rfl
 |true=>exact absurd (List.all_eq_true.1 h _ (List.getElem_mem hk)) (by rw[hr];decide)
def rK (s:Sk):List UInt8:=[103,114,97,112,104,32]++s.name.data.toList++[32,123,10]
theorem wH (s:Sk):dE s=rK s++s.items.flatMap cl++[125,10]:=rfl
theorem yM (l:List SIt) (k:Nat):(l.take k).flatMap cl<+:l.flatMap cl:=by
 conv=>rhs;rw[<-List.take_append_drop k l]
 rw[List.flatMap_append];exact List.prefix_append _ _
theorem wh (l:List SIt) (k:Nat) (h:k<l.length):(l.take (k+1)).flatMap cl=(l.take k).flatMap cl++cl l[k]:=by
 rw[List.take_succ_eq_append_getElem h,List.flatMap_append];simp
def Far (s:Sk) (k:Nat) (L:List UInt8):Prop:=(L=rK s++(s.items.take k).flatMap cl∨1048576<L.length)∧L<+:rK s++(s.items.take k).flatMap cl∧L.length<=1048800
theorem Far.big {s:Sk} {k:Nat} {L:List UInt8} (h:Far s k L) (hL:1048576<L.length):1048576<(dE s).length:=by
 have h1:=h.2.1.length_le;have h2:=(yM s.items k).length_le;rw[wH];simp only[List.length_append] at h1 ⊢;omega
theorem Far.next {s:Sk} {k:Nat} {L:List UInt8} (h:Far s k L) (hL:¬1048576<L.length) (hk:k<s.items.length) {l':List UInt8} (h1:l'<+:cl s.items[k]) (h2:l'=cl s.items[k]∨1048576<(L++l').length) (h3:(L++l').length<=1048800):Far s (k+1) (L++l'):=by
 have e:L=rK s++(s.items.take k).flatMap cl:=by
  rcases h.1 with e|e
  ·exact e
  ·exact absurd e hL
 rw[Far,wh _ _ hk];refine⟨?_,?_,h3⟩
 ·rcases h2 with rfl|h2
  ·exact .inl (by rw[e,List.append_assoc])
  ·exact .inr h2
 ·rw[<-List.append_assoc,<-e];exact(List.prefix_append_right_inj L).2 h1
theorem Far.done {s:Sk} {L:List UInt8} (h:Far s s.items.length L):(L++[125,10]=dE s∨1048576<L.length):=by
 rcases h.1 with e|e
 ·left;rw[e,List.take_length];rfl
 ·exact .inr e
theorem wI (w:World) (s:Sk) (he:Env w) (h:SkAt w s) (hd:SBnd s):
  Calls Tryz.prog 41 #[s.v] w fun e w'=>e= .returned (.tuple #[.string ⟨(dW s).1.toArray⟩,I (dW s).2])∧New w w':=by
 obtain⟨name,ia,ic,items⟩:=s;have nb:New w (w.alloc (.cells #[.string name,.slice ia items.length ic] 52)):=(New.refl w).alloc _;have hbk:(w.alloc (.cells #[.string name,.slice ia items.length ic] 52)).heap[w.heap.size]? =some (.cells #[.string name,.slice ia items.length ic] 52 (0,0)):=heap_alloc_new w _;obtain⟨c0,c1,-,-,hX⟩:=aT hbk;have hnm:=f9 (w.alloc (.cells #[.string name,.slice ia items.length ic] 52)) name hd.n;have hil:=hd.i;simp only at hil;have HBK:=Lib.hid hbk;have HB:=Lib.hid nb;have H:=Lib.hid h;have HD:=Lib.hid hd;obtain⟨PO,hPO⟩:∃PO:Ending->World->Prop,PO=fun e w'=>e= .returned (.tuple #[.string ⟨(dW ⟨name,ia,ic,items⟩).1.toArray⟩,I (dW ⟨name,ia,ic,items⟩).2])∧New w w':=⟨_,rfl⟩
 have HPO:=Lib.hid hPO;show Calls Tryz.prog 41 #[.agg #[.string name,.slice ia items.length ic]] w _
 rw[<-hPO];clear hPO h hd nb hbk;cases hn:aQ name with
 |false=>
  rw[hn] at hnm;have hpa:dW ⟨name,ia,ic,items⟩=([],1):=by unfold dW;rw[if_pos (by simp[hn])]
  have HPA:=Lib.hid hpa;clear hpa hn;go_enter Tryz.func41,Tryz.ntmps41;go_wp2_with fail;refine hnm.mono ?_;rintro e w1 ⟨rfl,n1⟩;go_wp2_with fail;rw[HPO.out];exact⟨(show Ending.returned (.tuple #[.string ⟨#[]⟩,I 1])=_ by rw[HPA.out]),HB.out.trans n1⟩
 |true=>
  rw[hn] at hnm;have CU:=dV hn;have HNM:=Lib.hid hn;clear hn;go_enter Tryz.func41,Tryz.ntmps41;go_wp2_with fail;refine hnm.mono ?_;rintro e w1 ⟨rfl,n1⟩;have NW:=Lib.hid (HB.out.trans n1);have hbk:=Keeps.heap n1 HBK.out (fun h=>h);obtain⟨d0,d1,-,-,hX1⟩:=aT hbk;have zQ:=Lib.hid hbk;clear hnm hbk n1 c0 c1 hX HBK;go_wp2_with fail;go_loopw [16] (fun i wr=>∃k:Nat,k<=items.length∧i= .int .i64 k∧Hid (New w1 wr)∧Hid ((items.take k).all bD=true)) (fun i _=>items.length-(intOf i).toNat)
  case atStart=>exact⟨0,by omega,rfl,Lib.hid (New.refl _),Lib.hid (by simp)⟩
  case round=>
   obtain⟨k,hk,rfl,HN,HR⟩:=hrel;by_cases hk1:k<items.length
   ·have hkI:(k:Int)<(items.length:Int):=by omega
    have hkd:decide (k<items.length)=true:=decide_eq_true hk1;have hnw:=NW.out.trans HN.out;obtain⟨bb,off,hab,q0,q1,q2,q3,q4,q5,q6,q7,q8,q9,q10⟩:=eu (H.out.new hnw).sl hk1;have Bn:=HD.out.sz _ (List.getElem_mem hk1);have tw:=(HD.out.bd _ (List.getElem_mem hk1)).ln;have hat:= @xy items k HR.out hk1;have han:= @zV items k hk1;simp only at hab q0 q1 q2 q3 q4 q5 q6 q7 q8 q9 q10;subst hab;generalize items[k]=y at q0 q1 q2 q3 q4 q5 q6 q7 q8 q9 q10 Bn tw hat han;obtain⟨kd,nm,tg,sa,sc,xs,fn,fp,fa,tn,tp,ta,at_⟩:=y;simp only at q0 q1 q2 q3 q4 q5 q6 q7 q8 q9 q10 tw;have hbw:=World.block_lt_of_cell? wr _ q0;have nX:New wr (wr.alloc (.cells #[.int .u8 kd,.string nm,.string tg,.slice sa xs.length sc,.string fn,I fp,I fa,.string tn,I tp,I ta,I at_] ItT)):=(New.refl _).alloc _;obtain⟨⟨x0,x1,x2,x3,x4,x5,x6,x7,x8,x9,x10⟩,-,hXX⟩:=aF (heap_alloc_new wr (.cells #[.int .u8 kd,.string nm,.string tg,.slice sa xs.length sc,.string fn,I fp,I fa,.string tn,I tp,I ta,I at_] ItT));have hri:=qU (wr.alloc (.cells #[.int .u8 kd,.string nm,.string tg,.slice sa xs.length sc,.string fn,I fp,I fa,.string tn,I tp,I ta,I at_] ItT)) (⟨kd,nm,tg,sa,sc,xs,fn,fp,fa,tn,tp,ta,at_⟩:SIt) Bn tw;have HAT:=Lib.hid hat;have HAN:=Lib.hid han;obtain⟨rb,hrb⟩:∃r,bD (⟨kd,nm,tg,sa,sc,xs,fn,fp,fa,tn,tp,ta,at_⟩:SIt)=r:=⟨_,rfl⟩
    rw[hrb] at hri;have HRB:=Lib.hid hrb;have NX:=Lib.hid nX;clear Bn hat han hrb nX;cases rb with
    |false=>
     have hpa:dW ⟨name,some ⟨bb,off,none⟩,ic,items⟩=([],1):=by unfold dW;rw[if_pos (by simp only[HAN.out HRB.out,Bool.and_false])]
     have HPA:=Lib.hid hpa;clear hpa;go_wp2_with fail;refine hri.mono ?_;rintro e w2 ⟨rfl,n2⟩;go_wp2_with fail;rw[HPO.out];exact⟨(show Ending.returned (.tuple #[.string ⟨#[]⟩,I 1])=_ by rw[HPA.out]),(hnw.trans NX.out).trans n2⟩
    |true=>
     go_wp2_with fail;refine hri.mono ?_;rintro e w2 ⟨rfl,n2⟩;have HN2:=Lib.hid ((HN.out.trans NX.out).trans n2);clear hri n2 hnw;go_wp2_with fail;go_roundw
     case rel=>exact⟨k+1,by omega,by go_num,HN2,Lib.hid (HAT.out HRB.out)⟩
     case measure=>simp[intOf];omega
   ·have hke:k=items.length:=by omega
    have hkd:decide (k<items.length)=false:=decide_eq_false hk1;have hk9:¬(k:Int)<(items.length:Int):=by omega
    have zP:Hid (items.all bD=true):=Lib.hid (by have h1:=HR.out;rw[hke,List.take_length] at h1;exact h1);clear hke;obtain⟨wo,hwo⟩:∃wo:World,wo=wr:=⟨_,rfl⟩
    rw[<-hwo] at HN ⊢;clear hwo HR hk hk1;have Bw:=NW.out.trans HN.out;have heo:=Lib.hid (he.new Bw);have hbk:=Keeps.heap HN.out zQ.out (fun h=>h);have nB:New wo (wo.alloc (.cells #[.pointer none,.slice none 0 0] 140)):=(New.refl _).alloc _;have qF:=Keeps.heap nB hbk (fun h=>h);obtain⟨e0,e1,-,-,hX2⟩:=aT qF;have B5:=Lib.hid qF;have hbd:=Bd.start wo;obtain⟨S1,hS1⟩:∃X,(⟨#[103,114,97,112,104,32]⟩:ByteArray)++name=X:=⟨_,rfl⟩
    have qI:S1.size<=22:=by
     have h1:((⟨#[103,114,97,112,104,32]⟩:ByteArray)).size<=6:=(by decide)
     have h2:(name).size<=16:=CU;rw[<-hS1,ByteArray.size_append];omega
    have lS1:S1.data.toList=((⟨#[103,114,97,112,104,32]⟩:ByteArray)).data.toList++(name).data.toList:=by rw[<-hS1,ByteArray.data_append,Array.toList_append]
    have xx:∀w:World,(Op.stringOp .add ((⟨#[103,114,97,112,104,32]⟩:ByteArray)) (name)).run Tryz.prog w= .ok (.string S1) w:=fun w=>by
     have h1:((⟨#[103,114,97,112,104,32]⟩:ByteArray)).size<=6:=(by decide)
     have h2:(name).size<=16:=CU;rw[<-hS1];exact run_string_add_sum w _ _ (by omega)
    clear hS1;obtain⟨S2,hS2⟩:∃X,S1++(⟨#[32,123,10]⟩:ByteArray)=X:=⟨_,rfl⟩
    have vV:S2.size<=25:=by
     have h1:(S1).size<=22:=qI;have h2:((⟨#[32,123,10]⟩:ByteArray)).size<=3:=(by decide)
     rw[<-hS2,ByteArray.size_append];omega
    have lS2:S2.data.toList=(S1).data.toList++((⟨#[32,123,10]⟩:ByteArray)).data.toList:=by rw[<-hS2,ByteArray.data_append,Array.toList_append]
    have AP:∀w:World,(Op.stringOp .add (S1) ((⟨#[32,123,10]⟩:ByteArray))).run Tryz.prog w= .ok (.string S2) w:=fun w=>by
     have h1:(S1).size<=22:=qI;have h2:((⟨#[32,123,10]⟩:ByteArray)).size<=3:=(by decide)
     rw[<-hS2];exact run_string_add_sum w _ _ (by omega)
    clear hS2;have D1:wo.heap.size<=(wo.alloc (.cells #[.pointer none,.slice none 0 0] 140)).heap.size:=nB.size;have hw:=iz _ wo.heap.size wo.heap.size [] S2 hbd (by simp only[List.length_nil];omega) D1;have HSL:Hid ([]++S2.data.toList=rK ⟨name,ia,ic,items⟩):=Lib.hid (by rw[lS2,lS1];rfl);have HSZ:=Lib.hid vV;have NB:=Lib.hid nB;have NWO:=Lib.hid Bw;clear hbk qF hbd nB d0 d1 hX1 zQ qI vV lS1 lS2 Bw;go_wp2_with fail;refine hw.mono ?_;rintro e w2 ⟨rfl,b2,k2⟩;clear hkd hk9;have qF:=k2.heap B5.out rfl;obtain⟨f0,f1,-,-,hX3⟩:=aT qF;have HBB:=Lib.hid b2;have HKK:=Lib.hid k2;have B6:Hid (Far ⟨name,ia,ic,items⟩ 0 ([]++S2.data.toList)):=Lib.hid (by
     rw[HSL.out];refine⟨.inl (by simp),by simp,?_⟩;rw[<-HSL.out,List.nil_append,am];have:=HSZ.out;omega)
    clear hw b2 k2 qF e0 e1 hX2 B5;obtain⟨BB,hBB⟩:∃BB,BB=wo.heap.size:=⟨_,rfl⟩
    have uI:wo.heap.size<=BB:=by omega
    rw[<-hBB] at HBB HKK ⊢;have HBE:=Lib.hid hBB;clear hBB;go_wp2_with fail;go_loopw [32] (fun i wr=>∃(k:Nat) (L:List UInt8),k<=items.length∧i= .int .i64 k∧Hid (Bd wr BB BB L∧KZ BB (wo.alloc (.cells #[.pointer none,.slice none 0 0] 140)) wr)∧Hid (Far ⟨name,ia,ic,items⟩ k L)) (fun i _=>items.length-(intOf i).toNat)
    case atStart=>exact⟨0,_,by omega,rfl,Lib.hid ⟨HBB.out,HKK.out⟩,B6⟩
    case round=>
     clear HBB HKK B6 f0 f1 hX3;obtain⟨k,L,hk,rfl,HS,HF⟩:=hrel;have HNO:Hid (New wo wr):=Lib.hid (KZ.nw HS.out.2 uI NB.out);by_cases hk1:k<items.length
     ·have hkI:(k:Int)<(items.length:Int):=by omega
      have hkd:decide (k<items.length)=true:=decide_eq_true hk1;obtain⟨bb,off,hab,q0,q1,q2,q3,q4,q5,q6,q7,q8,q9,q10⟩:=eu (H.out.new (NWO.out.trans HNO.out)).sl hk1;have tw:=HD.out.bd _ (List.getElem_mem hk1);have hnx:=(H.out.new NWO.out).nx _ (List.getElem_mem hk1);have tA:=List.all_eq_true.1 zP.out _ (List.getElem_mem hk1);simp only at hab q0 q1 q2 q3 q4 q5 q6 q7 q8 q9 q10;have B7:=Lib.hid (@Far.next ⟨name,ia,ic,items⟩ k L HF.out);have C9:=Lib.hid (@Far.big ⟨name,ia,ic,items⟩ k L HF.out);have HAB:=Lib.hid hab;obtain⟨y,hy⟩:∃y,items[k]=y:=⟨_,rfl⟩
      have HY:=Lib.hid hy;rw[hy] at q0 q1 q2 q3 q4 q5 q6 q7 q8 q9 q10 tw hnx tA;clear hy;obtain⟨kd,nm,tg,sa,sc,xs,fn,fp,fa,tn,tp,ta,at_⟩:=y;simp only at q0 q1 q2 q3 q4 q5 q6 q7 q8 q9 q10;have hbw:=World.block_lt_of_cell? wr _ q0;have nX:New wr (wr.alloc (.cells #[.int .u8 kd,.string nm,.string tg,.slice sa xs.length sc,.string fn,I fp,I fa,.string tn,I tp,I ta,I at_] ItT)):=(New.refl _).alloc _;obtain⟨⟨x0,x1,x2,x3,x4,x5,x6,x7,x8,x9,x10⟩,-,hXX⟩:=aF (heap_alloc_new wr (.cells #[.int .u8 kd,.string nm,.string tg,.slice sa xs.length sc,.string fn,I fp,I fa,.string tn,I tp,I ta,I at_] ItT));have aU:=oe (wr.alloc (.cells #[.int .u8 kd,.string nm,.string tg,.slice sa xs.length sc,.string fn,I fp,I fa,.string tn,I tp,I ta,I at_] ItT)) BB BB L (HS.out.1.new nX);have NX:=Lib.hid nX;obtain⟨m,hm⟩:∃m,L.length=m:=⟨_,rfl⟩
      rw[hm] at aU;have HM:=Lib.hid hm;have HIB:=Lib.hid tw;have Df:=Lib.hid hnx;have HRT:=Lib.hid tA;clear hab nX hm tw hnx tA;by_cases gQ:1048576<m
      ·have hbI:(1048576:Int)<(m:Int):=by omega
       have hpa:dW ⟨name,ia,ic,items⟩=([],2):=by
        unfold dW;rw[if_neg (by simp only[HNM.out,zP.out];decide),if_pos (C9.out (by rw[HM.out];exact gQ))]
       have HPA:=Lib.hid hpa;clear hpa gQ;rw[HAB.out];go_wp2_with fail;refine aU.mono ?_;rintro e w3 ⟨rfl,rfl⟩;go_wp2_with fail;rw[HPO.out];exact⟨(show Ending.returned (.tuple #[.string ⟨#[]⟩,I 2])=_ by rw[HPA.out]),(NWO.out.trans HNO.out).trans NX.out⟩
      ·have hbI:¬(1048576:Int)<(m:Int):=by omega
       have HNB:=Lib.hid gQ;have hwr:=xg wo (wr.alloc (.cells #[.int .u8 kd,.string nm,.string tg,.slice sa xs.length sc,.string fn,I fp,I fa,.string tn,I tp,I ta,I at_] ItT)) BB BB L heo.out uI (HNO.out.trans NX.out) (HS.out.1.new NX.out) (⟨kd,nm,tg,sa,sc,xs,fn,fp,fa,tn,tp,ta,at_⟩:SIt) Df.out HRT.out HIB.out (by rw[HM.out];omega);clear gQ;rw[HAB.out];go_wp2_with fail;refine aU.mono ?_;rintro e w3 ⟨rfl,rfl⟩;go_wp2_with fail;refine hwr.mono ?_;rintro e w4 ⟨rfl,k4,l',b4,p4,q4,z4⟩;have HS4:=Lib.hid (And.intro b4 ((HS.out.2.trans (KY.of_new NX.out)).trans k4));have HF4:Hid (Far ⟨name,ia,ic,items⟩ (k+1) (L++l')):=Lib.hid (B7.out (by rw[HM.out];exact HNB.out) hk1 (by rw[HY.out];exact p4) (by rw[HY.out];exact q4) z4);clear hwr aU b4 k4 p4 q4 z4 x0 x1 x2 x3 x4 x5 x6 x7 x8 x9 x10;go_wp2_with fail;go_roundw
       case rel=>exact⟨k+1,L++l',by omega,by go_num,HS4,HF4⟩
       case measure=>simp[intOf];omega
     ·have hke:k=items.length:=by omega
      have hkd:decide (k<items.length)=false:=decide_eq_false hk1;have hk9:¬(k:Int)<(items.length:Int):=by omega
      have HFE:Hid (Far ⟨name,ia,ic,items⟩ items.length L):=Lib.hid (by rw[<-hke];exact HF.out);have hlt:=HS.out.1.lt;have hw:=iz wr BB BB L (⟨#[125,10]⟩:ByteArray) HS.out.1 (by have:=HFE.out.2.2;show _+2<=_;omega) hlt.2;clear hke;go_wp2_with fail;refine hw.mono ?_;rintro e w3 ⟨rfl,b3,k3⟩;have b3:Bd w3 BB BB (L++[125,10]):=b3;have aU:=oe w3 BB BB _ b3;have hst:=xE w3 BB BB _ b3 b3.lt.2;have NW3:=Lib.hid (NWO.out.trans (KZ.nw (HS.out.2.trans k3) uI NB.out));obtain⟨m,hm⟩:∃m,(L++[125,10]).length=m:=⟨_,rfl⟩
      rw[hm] at aU;have HM:=Lib.hid hm;have EF:w.heap.size<=BB:=Nat.le_trans NWO.out.size uI;clear hw k3 b3 hm;by_cases gQ:1048576<m
      ·have hbI:(1048576:Int)<(m:Int):=by omega
       have hpa:dW ⟨name,ia,ic,items⟩=([],2):=by
        unfold dW;rw[if_neg (by simp only[HNM.out,zP.out];decide),if_pos];rcases HFE.out.done with e|e
        ·rw[<-e,HM.out];exact gQ
        ·exact HFE.out.big e
       have HPA:=Lib.hid hpa;clear hpa gQ;go_wp2_with fail;refine aU.mono ?_;rintro e w4 ⟨rfl,rfl⟩;go_wp2_with fail;rw[HPO.out];exact⟨(show Ending.returned (.tuple #[.string ⟨#[]⟩,I 2])=_ by rw[HPA.out]),NW3.out⟩
      ·have hbI:¬(1048576:Int)<(m:Int):=by omega
       have hLP:L++[125,10]=dE ⟨name,ia,ic,items⟩:=by
        rcases HFE.out.done with e|e
        ·exact e
        ·have:=HM.out;rw[List.length_append] at this;omega
       have hpa:dW ⟨name,ia,ic,items⟩=(L++[125,10],0):=by
        unfold dW;rw[if_neg (by simp only[HNM.out,zP.out];decide),if_neg (by rw[<-hLP,HM.out];exact gQ),<-hLP]
       have HPA:=Lib.hid hpa;obtain⟨X,hXX⟩:∃X:ByteArray,(⟨(L++[125,10]).toArray⟩:ByteArray)=X:=⟨_,rfl⟩
       rw[hXX] at hst;have HXX:=Lib.hid hXX;clear hpa gQ hLP hXX;go_wp2_with fail;refine aU.mono ?_;rintro e w4 ⟨rfl,rfl⟩;go_wp2_with fail;refine hst.mono ?_;rintro e w5 ⟨rfl,k5⟩;go_wp2_with fail;rw[HPO.out];refine⟨(show Ending.returned (.tuple #[.string X,I 0])=_ by rw[HPA.out,HXX.out]),?_⟩;have kk:Keeps (fun i=>BB<=i) w4 w5:=⟨k5.os,k5.tape,k5.output,k5.size,fun i hi hn=>k5.block i (by omega)⟩
       exact NW3.out.keeps kk (fun i hi h=>by omega)
theorem ss (s:Sk):dW s.bare=dW s:=by
 have h1:s.bare.items.all bD=s.items.all bD:=by
  unfold Sk.bare;simp only[List.all_map];rfl
 have h2:dE s.bare=dE s:=by
  unfold dE Sk.bare;simp only[List.flatMap_map];rfl
 unfold dW;rw[h1,h2];rfl
theorem uk (w:World) (s:ByteArray) (he:Env w) (hs:s.size<=9223372036854775807) (x:LSk) (h:cz s.data.toList= .ok x):
  Calls Tryz.prog 23 #[.string s] w fun e w'=>∃t:Sk,t.bare=x.mem∧e= .returned (.tuple #[t.v,.agg #[I 0,I 0]])∧SkOwn w' w.heap.size t∧New w w':=by
 refine(pU w s he hs).mono ?_;rw[h];exact fun e w' h=>h
theorem uj (w:World) (s:ByteArray) (he:Env w) (hs:s.size<=9223372036854775807) (c:Int) (k:Nat) (h:cz s.data.toList= .error (c,k)):
  Calls Tryz.prog 23 #[.string s] w fun e w'=>e= .returned (.tuple #[.agg #[.string ⟨#[]⟩,.slice none 0 0],.agg #[I c,I (k:Int)]])∧New w w':=by
 refine(pU w s he hs).mono ?_;rw[h];exact fun e w' h=>h
theorem pr {s:Sk} {x:LSk} (h:s.bare=x.mem):s.name=⟨x.name.toArray⟩∧s.items.length=x.items.length:=by
 have h1:=congrArg Sk.name h;have h2:=congrArg (fun t=>t.items.length) h;simp only[Sk.bare,LSk.mem,List.length_map] at h1 h2;exact⟨h1,h2⟩
theorem vs {s:Sk} {x:LSk} (h:s.bare=x.mem) (i:Nat) (hi:i<s.items.length) (hj:i<x.items.length):s.items[i]=x.items[i].mem s.items[i].a s.items[i].c:=by
 have h2:=congrArg Sk.items h;have h3:(s.items.map SIt.bare)[i]? =(x.items.map fun y=>y.mem none 0)[i]? :=by
  show s.bare.items[i]? =x.mem.items[i]?
  rw[h2]
 rw[List.getElem?_map,List.getElem?_map,List.getElem?_eq_getElem hi,List.getElem?_eq_getElem hj] at h3;have h4:s.items[i].bare=x.items[i].mem none 0:=Option.some.inj h3;generalize s.items[i]=y at h4 ⊢;generalize x.items[i]=z at h4 ⊢;obtain⟨y1,y2,y3,y4,y5,y6,y7,y8,y9,y10,y11,y12,y13⟩:=y;unfold SIt.bare LIt.mem at h4;unfold LIt.mem;simp only[SIt.mk.injEq] at h4 ⊢;exact⟨h4.1,h4.2.1,h4.2.2.1,trivial,trivial,h4.2.2.2.2.2.1,h4.2.2.2.2.2.2.1,h4.2.2.2.2.2.2.2.1,h4.2.2.2.2.2.2.2.2.1,h4.2.2.2.2.2.2.2.2.2.1,h4.2.2.2.2.2.2.2.2.2.2.1,h4.2.2.2.2.2.2.2.2.2.2.2.1,h4.2.2.2.2.2.2.2.2.2.2.2.2⟩
structure LBnd (x:LSk):Prop where
 n:x.name.length<=9223372036854775807
 i:x.items.length<=9223372036854775807
 sz:∀y∈x.items,y.name.length<=9223372036854775807∧y.tag.length<=9223372036854775807∧y.fr.name.length<=9223372036854775807∧y.tu.name.length<=9223372036854775807∧y.xs.length<=9223372036854775807
 bd:∀y∈x.items,(-9223372036854775808<=y.fr.port∧y.fr.port<=9223372036854775807)∧(-9223372036854775808<=y.tu.port∧y.tu.port<=9223372036854775807)∧∀n∈y.xs,-9223372036854775808<=n∧n<=9223372036854775807
theorem jR (l:List UInt8):(⟨l.toArray⟩:ByteArray).size=l.length:=by rw[<-am]
theorem LBnd.mem {x:LSk} (h:LBnd x) {s:Sk} (hs:s.bare=x.mem):SBnd s:=by
 obtain⟨h1,h2⟩:=pr hs;have hit:∀y∈s.items,∃z∈x.items,y=z.mem y.a y.c:=fun y hy=>by
  obtain⟨i,hi,rfl⟩:=List.mem_iff_getElem.1 hy;exact⟨x.items[i]'(by omega),List.getElem_mem _,vs hs i hi (by omega)⟩
 refine⟨by rw[h1,jR];exact h.n,by rw[h2];exact h.i,fun y hy=>?_,fun y hy=>?_⟩
 ·obtain⟨z,hz,e⟩:=hit y hy;obtain⟨a1,a2,a3,a4,_⟩:=h.sz z hz;rw[e];exact⟨by show(⟨z.name.toArray⟩:ByteArray).size<=_;rw[jR];exact a1,by show(⟨z.tag.toArray⟩:ByteArray).size<=_;rw[jR];exact a2,by show(⟨z.fr.name.toArray⟩:ByteArray).size<=_;rw[jR];exact a3,by show(⟨z.tu.name.toArray⟩:ByteArray).size<=_;rw[jR];exact a4⟩
 ·obtain⟨z,hz,e⟩:=hit y hy;obtain⟨b1,b2,b3⟩:=h.bd z hz;rw[e];exact⟨b1,b2,b3,(h.sz z hz).2.2.2.2⟩
end Go.Proofs.YtnedmonlofbahaaGreatDoor
namespace Go.Proofs.YtnedmonlofbahaaGreatDoor
open Go
set_option linter.all false
theorem oV {t:LTok} (h:t.right=true) (hn: -9223372036854775808<=t.num∧t.num<=9223372036854775807):t.spelt.length<=21∧1<=t.spelt.length:=by
 obtain⟨c,r,hs,_,_,_⟩:=mS t h hn;refine⟨?_,by rw[hs];simp⟩;unfold LTok.right at h;split at h
 ·rename_i e;unfold LTok.spelt;rw[if_neg (by omega)];simp only[Bool.and_eq_true] at h;cases hx:t.text with
  |nil=>simp
  |cons c r=>
   rw[hx] at h;simp only[fS,Bool.and_eq_true,decide_eq_true_iff] at h;have:=h.2.2.2;simp only[List.length_cons];omega
 ·split at h
  ·rename_i e;unfold LTok.spelt;rw[if_pos e];exact Lib.itoa_length_le t.num hn.1 hn.2
  ·split at h
   ·rename_i e;unfold LTok.spelt;rw[if_neg (by omega)];simp only[Bool.and_eq_true] at h;have:=h.2;unfold rZ at this;rw[decide_eq_true_iff] at this;rcases this with e|e|e|e|e|e<;>(rw[e];decide)
   ·cases h
theorem iK {s:List UInt8} {c:Int} {k:Nat} (h:cz s= .error (c,k)):c≠0∧k<=s.length:=by
 unfold cz at h;obtain⟨⟨l,c',k'⟩,hA⟩:∃r,eR s=r:=⟨_,rfl⟩
 rw[hA] at h;simp only at h;have yd:=gh hA;split at h
 ·rename_i hc;cases h
  refine⟨hc,?_⟩;rcases yd with⟨e,_⟩|⟨e,_⟩
  ·exact absurd e hc
  ·rcases e with⟨_,e2,e3⟩|⟨_,_,ts,e⟩
   ·omega
   ·have:=(uQ s.length 0 s (Nat.le_refl _)).2 c k (by rw[e]);omega
 ·split at h
  ·cases h
  ·cases h
   refine⟨by decide,?_⟩;rename_i j hp;cases hj:l[j]? with
   |none=>exact Nat.zero_le _
   |some t=>
    show t.at_<=_
    have:=An (l:=s) t (by rw[hA];exact List.mem_of_getElem? hj);omega
def Lx (s:List UInt8) (ts:List LTok):Prop:=∀p,∃us,bU p s=(us,none)∧us.map LTok.bare0=ts
theorem Lx.nil:Lx [] []:=fun p=>⟨[],eK p,rfl⟩
theorem Lx.blank {c:UInt8} {s:List UInt8} {ts:List LTok} (h:Lx s ts) (hc:de c=true):Lx (c::s) ts:=fun p=>by
 rw[cC p c s hc];exact h (p+1)
theorem Lx.tok {t:LTok} {b:UInt8} {r:List UInt8} {ts:List LTok} (h:Lx (b::r) ts) (hr:t.right=true) (hn: -9223372036854775808<=t.num∧t.num<=9223372036854775807) (hb:gO b):Lx (t.spelt++b::r) (t.bare0::ts):=fun p=>by
 obtain⟨c,q,hs,h1,h2,ht⟩:=mS t hr hn;have ha:=nl c q b hb r;rw[ht,List.cons_append] at ha;obtain⟨us,hu,hts⟩:=h (p+(q.length+1));refine⟨⟨t.sort,t.text,t.num,p⟩::us,?_,by rw[List.map_cons,hts];rfl⟩;rw[hs,List.cons_append,eS _ _ _ h1 h2 ha];have hd:(c::(q++b::r)).drop (q.length+1)=b::r:=by rw[List.drop_succ_cons,List.drop_left]
 rw[hd,hu]
theorem Lx.mark {c:UInt8} {r:List UInt8} {ts:List LTok} (h:Lx r ts) (hc:c=123∨c=125∨c=61∨c=59∨c=46):Lx (c::r) (⟨3,[c],0,0⟩::ts):=fun p=>by
 have ht:cZ (c::r)= .good 3 [c] 0 1:=by
  rw[aY];rcases hc with rfl|rfl|rfl|rfl|rfl<;>rfl
 obtain⟨us,hu,hts⟩:=h (p+1);refine⟨⟨3,[c],0,p⟩::us,?_,by rw[List.map_cons,hts];rfl⟩;rw[eS _ _ _ (by rcases hc with rfl|rfl|rfl|rfl|rfl<;>rfl) (by rcases hc with rfl|rfl|rfl|rfl|rfl<;>decide) ht];rw[List.drop_succ_cons,List.drop_zero,hu]
def wT (s:List UInt8):LTok:=⟨1,s,0,0⟩
def mT (s:List UInt8):LTok:=⟨3,s,0,0⟩
def nT (n:Int):LTok:=⟨2,[],n,0⟩
theorem Lx.word {s r:List UInt8} {b:UInt8} {ts:List LTok} (h:Lx (b::r) ts) (hs:fS s=true) (hb:gO b):Lx (s++b::r) (wT s::ts):=by
 have:=h.tok (t:=wT s) (by unfold LTok.right wT;simp[hs]) (by unfold wT;simp only;omega) hb;exact this
theorem Lx.num {n:Int} {r:List UInt8} {b:UInt8} {ts:List LTok} (h:Lx (b::r) ts) (hn: -9223372036854775808<=n∧n<=9223372036854775807) (hb:gO b):Lx (Lib.itoa n++b::r) (nT n::ts):=by
 have:=h.tok (t:=nT n) (by unfold LTok.right nT;simp) hn hb;exact this
theorem Lx.arrow {r:List UInt8} {ts:List LTok} (h:Lx (32::r) ts):Lx (45::62::32::r) (mT [45,62]::ts):=by
 have:=h.tok (t:=mT [45,62]) (by unfold LTok.right mT;decide) (by unfold mT;simp only;omega) (by unfold gO;decide);exact this
theorem fz:gO 32:=by unfold gO;decide
theorem AJ:gO 46:=by unfold gO;decide
theorem qY:gO 59:=by unfold gO;decide
theorem Lx.place {n:ByteArray} {p:Int} {b:UInt8} {r:List UInt8} {ts:List LTok} (h:Lx (b::r) ts) (hb:gO b) (hn:aQ n=true) (hp: -9223372036854775808<=p∧p<=9223372036854775807):
  Lx (dL n p++b::r) (wT n.data.toList::mT [46]::nT p::ts):=by
 have h1:=(h.num hp hb).mark (c:=46) (by decide);have h2:=h1.word (s:=n.data.toList) (by rw[<-gy];exact hn) AJ;unfold dL;rw[List.append_assoc,List.cons_append];exact h2
def im (xs:List Int):List LTok:=xs.map nT
theorem Lx.nums {r:List UInt8} {ts:List LTok} (h:Lx (59::r) ts):∀xs:List Int,(∀n∈xs,-9223372036854775808<=n∧n<=9223372036854775807)->Lx (bL xs++59::r) (im xs++ts)∧∃b q,bL xs++59::r=b::q∧gO b:=by
 intro xs;induction xs with
 |nil=>intro _;exact⟨h,59,r,rfl,qY⟩
 |cons x xs ih=>
  intro hb;obtain⟨h1,b,q,e,hs⟩:=ih (fun n hn=>hb n (List.mem_cons_of_mem _ hn));rw[e] at h1;have h2:=(h1.num (hb x List.mem_cons_self) hs).blank (c:=32) (by decide);have e2:bL (x::xs)++59::r=32::(Lib.itoa x++b::q):=by
   rw[<-e];unfold bL;simp
  rw[e2];exact⟨h2,32,_,rfl,fz⟩
def gS (x:SIt):List LTok:=
 if x.kind=1 then[wT fN,wT x.name.data.toList,mT [61],wT x.tag.data.toList]++im x.xs++[mT [59]]
 else if x.kind=2 then[wT ib,wT x.fn.data.toList,mT [46],nT x.fp,mT [45,62],wT x.tn.data.toList,mT [46],nT x.tp]++(if x.xs=[] then[] else[wT gE])++im x.xs++[mT [59]]
 else if x.kind=3 then[wT inW,wT x.name.data.toList,mT [45,62],wT x.tn.data.toList,mT [46],nT x.tp,mT [59]]
 else[wT mH,wT x.fn.data.toList,mT [46],nT x.fp,mT [45,62],wT x.name.data.toList,mT [59]]
theorem Lx.line {r:List UInt8} {ts:List LTok} (h:Lx r ts) (x:SIt) (hr:bD x=true) (hp:(-9223372036854775808<=x.fp∧x.fp<=9223372036854775807)∧(-9223372036854775808<=x.tp∧x.tp<=9223372036854775807)∧∀n∈x.xs,-9223372036854775808<=n∧n<=9223372036854775807):Lx (cl x++r) (gS x++ts):=by
 obtain⟨kind,name,tag,sa,sc,xs,fn,fp,fa,tn,tp,ta,at_⟩:=x;obtain⟨hf,ht,hx⟩:=hp;simp only at hf ht hx;have h0:Lx (59::10::r) (mT [59]::ts):=(h.blank (c:=10) (by decide)).mark (by decide);obtain⟨h1,b,q,e,hb⟩:=h0.nums xs hx;rw[e] at h1;unfold bD at hr;simp only at hr;split at hr
 ·rename_i hk;subst hk;simp only[Bool.and_eq_true] at hr;obtain⟨⟨⟨hn,ht⟩,-⟩,-⟩:=hr;rw[gy] at hn ht;have h2:=((h1.word ht hb).blank (c:=32) (by decide)).mark (c:=61) (by decide);have h3:=((((h2.blank (c:=32) (by decide)).word hn fz).blank (c:=32) (by decide)).word (s:=fN) (by decide) fz)
  have h4:=(h3.blank (c:=32) (by decide)).blank (c:=32) (by decide);have e1:cl ⟨1,name,tag,sa,sc,xs,fn,fp,fa,tn,tp,ta,at_⟩++r=32::32::(fN++32::(name.data.toList++32::61::32::(tag.data.toList++b::q))):=by
   rw[<-e];unfold cl ft fN;simp
  rw[e1];have e2:gS ⟨1,name,tag,sa,sc,xs,fn,fp,fa,tn,tp,ta,at_⟩++ts=wT fN::wT name.data.toList::⟨3,[61],0,0⟩::wT tag.data.toList::(im xs++mT [59]::ts):=by
   unfold gS mT;simp
  rw[e2];exact h4
 ·split at hr
  ·rename_i hk;subst hk;simp only[Bool.and_eq_true] at hr;obtain⟨⟨⟨-,-⟩,hn⟩,ho⟩:=hr;have hT:∃b' q',(if xs=[] then[] else[32,119,105,116,104])++b::q=b'::q'∧gO b'∧Lx (b'::q') ((if xs=[] then[] else[wT gE])++(im xs++mT [59]::ts)):=by
    by_cases hx0:xs=[]
    ·rw[if_pos hx0,if_pos hx0];exact⟨b,q,rfl,hb,h1⟩
    ·rw[if_neg hx0,if_neg hx0];exact⟨32,_,rfl,fz,(h1.word (s:=gE) (by decide) hb).blank (c:=32) (by decide)⟩
   obtain⟨b',q',e',hb',h2⟩:=hT;have h3:=((h2.place hb' ho ht).blank (c:=32) (by decide)).arrow.blank (c:=32) (by decide);have h4:=(((h3.place fz hn hf).blank (c:=32) (by decide)).word (s:=ib) (by decide) fz)
   have h5:=(h4.blank (c:=32) (by decide)).blank (c:=32) (by decide);have e1:cl ⟨2,name,tag,sa,sc,xs,fn,fp,fa,tn,tp,ta,at_⟩++r=32::32::(ib++32::(dL fn fp++32::45::62::32::(dL tn tp++b'::q'))):=by
    rw[<-e',<-e];unfold cl ft ib;simp
   rw[e1];have e2:gS ⟨2,name,tag,sa,sc,xs,fn,fp,fa,tn,tp,ta,at_⟩++ts=wT ib::wT fn.data.toList::mT [46]::nT fp::mT [45,62]::wT tn.data.toList::mT [46]::nT tp::((if xs=[] then[] else[wT gE])++(im xs++mT [59]::ts)):=by
    unfold gS;simp
   rw[e2];exact h5
  ·split at hr
   ·rename_i hk;subst hk;simp only[Bool.and_eq_true] at hr;obtain⟨⟨⟨⟨hn,-⟩,hx0⟩,-⟩,ho⟩:=hr;have hx0:xs=[]:=by simpa using hx0
    subst hx0;rw[gy] at hn;have h3:=((h0.place qY ho ht).blank (c:=32) (by decide)).arrow.blank (c:=32) (by decide);have h4:=(((h3.word hn fz).blank (c:=32) (by decide)).word (s:=inW) (by decide) fz)
    have h5:=(h4.blank (c:=32) (by decide)).blank (c:=32) (by decide);have e1:cl ⟨3,name,tag,sa,sc,[],fn,fp,fa,tn,tp,ta,at_⟩++r=32::32::(inW++32::(name.data.toList++32::45::62::32::(dL tn tp++59::10::r))):=by
     unfold cl ft inW bL;simp
    rw[e1];exact h5
   ·split at hr
    ·rename_i hk;subst hk;simp only[Bool.and_eq_true] at hr;obtain⟨⟨⟨⟨hn,-⟩,hx0⟩,ho⟩,-⟩:=hr;have hx0:xs=[]:=by simpa using hx0
     subst hx0;rw[gy] at hn;have h3:=((h0.word hn qY).blank (c:=32) (by decide)).arrow.blank (c:=32) (by decide);have h4:=(((h3.place fz ho hf).blank (c:=32) (by decide)).word (s:=mH) (by decide) fz)
     have h5:=(h4.blank (c:=32) (by decide)).blank (c:=32) (by decide);have e1:cl ⟨4,name,tag,sa,sc,[],fn,fp,fa,tn,tp,ta,at_⟩++r=32::32::(mH++32::(dL fn fp++32::45::62::32::(name.data.toList++59::10::r))):=by
      unfold cl ft mH bL;simp
     rw[e1];exact h5
    ·cases hr
def tkS (s:Sk):List LTok:=[wT fe,wT s.name.data.toList,mT [123]]++s.items.flatMap gS++[mT [125]]
theorem Lx.sketch (s:Sk) (hn:aQ s.name=true) (hr:s.items.all bD=true) (hb:∀x∈s.items,(-9223372036854775808<=x.fp∧x.fp<=9223372036854775807)∧(-9223372036854775808<=x.tp∧x.tp<=9223372036854775807)∧∀n∈x.xs,-9223372036854775808<=n∧n<=9223372036854775807):Lx (dE s) (tkS s):=by
 have tt:Lx [125,10] [mT [125]]:=(Lx.nil.blank (c:=10) (by decide)).mark (by decide);have hit:∀l:List SIt,(∀x∈l,bD x=true∧((-9223372036854775808<=x.fp∧x.fp<=9223372036854775807)∧(-9223372036854775808<=x.tp∧x.tp<=9223372036854775807)∧∀n∈x.xs,-9223372036854775808<=n∧n<=9223372036854775807))->Lx (l.flatMap cl++[125,10]) (l.flatMap gS++[mT [125]]):=by
  intro l;induction l with
  |nil=>intro _;exact tt
  |cons x l ih=>
   intro h;have h1:=ih (fun y hy=>h y (List.mem_cons_of_mem _ hy));obtain⟨h2,h3⟩:=h x List.mem_cons_self;have h4:=h1.line x h2 h3;simp only[List.flatMap_cons,List.append_assoc];exact h4
 have h1:=(hit s.items (fun x hx=>⟨List.all_eq_true.1 hr x hx,hb x hx⟩)).blank (c:=10) (by decide);rw[gy] at hn;have h2:=((h1.mark (c:=123) (by decide)).blank (c:=32) (by decide)).word hn fz;have h3:=(h2.blank (c:=32) (by decide)).word (s:=fe) (by decide) fz;have e1:dE s=fe++32::(s.name.data.toList++32::123::10::(s.items.flatMap cl++[125,10])):=by
  unfold dE fe;simp
 rw[e1];have e2:tkS s=wT fe::wT s.name.data.toList::⟨3,[123],0,0⟩::(s.items.flatMap gS++[mT [125]]):=by
  unfold tkS mT;simp
 rw[e2];exact h3
theorem lP {s:ByteArray} (h:dI s=true):s.data.toList=[]:=by
 unfold dI at h;rw[<-ByteArray.toList_eq];simpa using h
theorem vu {n:ByteArray} {p:Int} (h:fY n p=true):n.data.toList=[]∧p=0:=by
 unfold fY at h;simp only[Bool.and_eq_true] at h;exact⟨(lP h.1),by simpa using h.2⟩
def PR.lt {α:Type} (n:Nat):PR α->Prop
 | .bad k=>k<n
 | .good _ k=>k<n
section
variable {l:List LTok} (he:dT l)
include he
end
def tI (l:List LTok):Nat->List UInt8
 |0=>[]
 |i+1=>tI l i++(l[i]?.map LTok.spelt).getD []++(if i+2<l.length then[32] else[])
structure TGood (l:List LTok):Prop where
 ne:0<l.length
 rt:∀(i:Nat) (t:LTok),l[i]? =some t->i+1<l.length->t.right=true∧t.sort≠0
 nm:∀(i:Nat) (t:LTok),l[i]? =some t-> -9223372036854775808<=t.num∧t.num<=9223372036854775807
 en:∀(i:Nat) (t:LTok),l[i]? =some t->i+1=l.length->t.sort=0∧t.spelt=[]∧t.text=[]∧t.num=0
theorem Ae {s:List UInt8} {l:List LTok} (h:eR s=(l,0,0)):TGood l:=by
 obtain⟨h1,_,h3⟩:=jB h;refine⟨h3,fun i t ht hi=>?_,fun i t ht=>?_,fun i t ht hi=>?_⟩
 ·obtain⟨hj,rfl⟩:=List.getElem?_eq_some_iff.1 ht;obtain⟨_,_,_,h4,_⟩:=h1 i hj;rcases h4 with⟨e,_⟩|⟨_,e1,e2⟩
  ·omega
  ·exact⟨e2,e1⟩
 ·obtain⟨hj,rfl⟩:=List.getElem?_eq_some_iff.1 ht;exact(h1 i hj).2.2.2.2.1
 ·rcases gh h with⟨_,_,_,aU,ts,hl,rfl⟩|⟨⟨e,_⟩|⟨e,_⟩,_⟩
  ·rw[List.length_append,List.length_singleton] at hi;obtain rfl:i=ts.length:=by omega
   rw[List.getElem?_append_right (Nat.le_refl _),Nat.sub_self] at ht;cases ht
   exact⟨rfl,rfl,rfl,rfl⟩
  ·cases e
  ·omega
theorem TGood.len {l:List LTok} (h:TGood l) {i:Nat} {t:LTok} (ht:l[i]? =some t):t.spelt.length<=21:=by
 have hi:=(List.getElem?_eq_some_iff.1 ht).1;rcases Nat.lt_or_ge (i+1) l.length with h1|h1
 ·exact(oV (h.rt i t ht h1).1 (h.nm i t ht)).1
 ·rw[(h.en i t ht (by omega)).2.1];simp
def qu (Bs:List UInt8) (Ws:List LTok):Prop:=∀rest,bU 0 (Bs++rest)=(Ws++(bU Bs.length rest).1,(bU Bs.length rest).2)
theorem qu.step {Bs:List UInt8} {Ws:List LTok} (h:qu Bs Ws) (t:LTok) (hr:t.right=true) (hn: -9223372036854775808<=t.num∧t.num<=9223372036854775807):
  qu (Bs++t.spelt++[32]) (Ws++[{ t with at_:=Bs.length }]):=by
 intro rest;have h1:=h (t.spelt++nt 0++rest);rw[v8 t hr hn 0 Bs.length rest] at h1;have e:nt 0=[32]:=rfl;rw[e] at h1;rw[List.append_assoc,List.append_assoc,<-List.append_assoc t.spelt,h1];simp only[List.length_append,List.append_assoc,List.singleton_append,Nat.add_assoc]
def A5 (l:List LTok) (n:Nat) (Ws:List LTok):Prop:=Ws.length=n∧∀k t,k<n->l[k]? =some t->Ws[k]? =some { t with at_:=(tI l k).length }
theorem A5.snoc {l:List LTok} {n:Nat} {Ws:List LTok} (h:A5 l n Ws) {t:LTok} (ht:l[n]? =some t):A5 l (n+1) (Ws++[{ t with at_:=(tI l n).length }]):=by
 obtain⟨h1,h2⟩:=h;refine⟨by simp[h1],fun k u hk hu=>?_⟩;rcases Nat.lt_or_ge k n with h|h
 ·rw[List.getElem?_append_left (by omega)];exact h2 k u h hu
 ·obtain rfl:k=n:=by omega
  rw[ht] at hu;cases hu
  rw[List.getElem?_append_right (by omega),h1,Nat.sub_self];rfl
end Go.Proofs.YtnedmonlofbahaaGreatDoor
