/-
  SkDd: what is wanted of them.
-/
import Derived.Test.YtnedmonlofbahaaGreatDoorDwC
set_option maxRecDepth 100000
set_option maxHeartbeats 32000000
namespace Go.Proofs.YtnedmonlofbahaaGreatDoor
open Go Go.RowKit Go.Joins
set_option linter.all false
def zj (l:List LTok):PR (List UInt8):=(bC 1 fe l 0).bind fun _ k1=>(f8 l k1).bind fun n k2=>(bC 3 [123] l k2).bind fun _ k3=> .good n k3
def zk (l:List LTok):List UInt8×RS:=let r2:=cq l (cE l 1 fe (0,true));(r2.1,cE l 3 [123] r2.2)
theorem Au (l:List LTok):Sim (zk l) (zj l):=by
 unfold zk zj;cases h1:bC 1 fe l 0 with
 |bad j=>simp only[eT h1,iy,dC,PR.bind_bad];rfl
 |good u k1=>
  cases h2:f8 l k1 with
  |bad j=>simp only[bK h1,xb h2,dC,PR.bind_good,h2,PR.bind_bad];rfl
  |good n k2=>
   cases h3:bC 3 [123] l k2 with
   |bad j=>simp only[bK h1,pd h2,eT h3,PR.bind_good,h2,h3,PR.bind_bad];rfl
   |good u3 k3=>simp only[bK h1,pd h2,bK h3,PR.bind_good,h2,h3];rfl
theorem tW (l:List LTok):cV l=(zj l).bind fun n k3=>(bJ l.length l k3).bind fun xs k4=>(bC 3 [125] l k4).bind fun _ k5=>(cp 0 l k5).bind fun _ k6=> .good ⟨n,xs⟩ k6:=by
 unfold cV zj f8;simp only[PR.bind_assoc,PR.bind_good]
def qt (l:List LTok) (s3:RS) (acc:List LIt) (s4:RS):Prop:=
 (s3.2=false->s4=s3)∧(s3.2=true->(s4.2=true->bJ l.length l s3.1= .good acc s4.1)∧(s4.2=false->bJ l.length l s3.1= .bad s4.1))
theorem pV {l:List LTok} {n:List UInt8} {s3 s4:RS} {acc:List LIt} (h1:zk l=(n,s3)) (h2:qt l s3 acc s4) {t:LTok} (ht:l[(cE l 3 [125] s4).1]? =some t):
  ((cE l 3 [125] s4).2=true∧t.sort=0->∃m,cV l= .good ⟨n,acc⟩ m)∧(¬((cE l 3 [125] s4).2=true∧t.sort=0)->cV l= .bad (cE l 3 [125] s4).1):=by
 have hp:=Au l;rw[h1] at hp;rw[tW];obtain⟨k3,o3⟩:=s3;obtain⟨k4,o4⟩:=s4;cases yC:zj l with
 |bad j=>
  rw[yC] at hp;have e3:(k3,o3)=(j,false):=hp;cases e3
  have e4:=h2.1 rfl;cases e4
  refine⟨fun h=>?_,fun _=>by rw[PR.bind_bad];rfl⟩;have:=h.1;rw[dC] at this;cases this
 |good n' k3'=>
  rw[yC] at hp;have e3:(n,(k3,o3))=(n',(k3',true)):=hp;cases e3
  obtain⟨ha,hb⟩:=h2.2 rfl;cases o4 with
  |false=>
   refine⟨fun h=>?_,fun _=>?_⟩
   ·have:=h.1;rw[dC] at this;cases this
   ·rw[PR.bind_good,hb rfl,PR.bind_bad];rfl
  |true=>
   have hi:=ha rfl;simp only at hi;cases hm:bC 3 [125] l k4 with
   |bad j=>
    have e5:=eT hm;rw[e5] at ht ⊢;refine⟨fun h=>absurd h.1 (by simp),fun _=>?_⟩;rw[PR.bind_good,hi,PR.bind_good,hm,PR.bind_bad]
   |good u k5=>
    have e5:=bK hm;rw[e5] at ht ⊢;have htk:=cO (so:=0) ht;refine⟨fun h=>⟨_,by rw[PR.bind_good,hi,PR.bind_good,hm,PR.bind_good,htk,if_pos h.2,PR.bind_good]⟩,fun h=>?_⟩;have hs:¬t.sort=0:=fun e=>h ⟨rfl,e⟩
    rw[PR.bind_good,hi,PR.bind_good,hm,PR.bind_good,htk,if_neg hs,PR.bind_bad]
structure DsS (w:World) (G M S:Nat) (l:List LTok) (a:Option Addr) (c:Nat) (st:RS) (s:Sk) (acc:List LIt) (wr:World):Prop where
 p:RAt wr G l a c st
 sk:SkB wr M S s
 f2:wr.heap[w.heap.size]? =some (.cells #[.string ⟨#[]⟩,.slice none 0 0] 52 (0,0))
 f3:wr.heap[w.heap.size+1]? =some (.cells #[I 0,I 0] 33 (0,0))
 it:s.items.map SIt.bare=acc.map fun x=>x.mem none 0
 nw:New w wr
 hM:M<=wr.heap.size
 g1:w.heap.size+2<=S
 g2:S<G
 g3:G<M
 ha:∀g,blk a g->w.heap.size+2<=g∧g<S
section
variable {w:World} {G M S:Nat} {l:List LTok} {a:Option Addr} {c:Nat} {st:RS} {s:Sk} {acc:List LIt} {wr w':World}
theorem DsS.new (h:DsS w G M S l a c st s acc wr) (n:New wr w'):DsS w G M S l a c st s acc w':=
 ⟨h.p.new n,h.sk.new n,Keeps.heap n h.f2 (fun h=>h),Keeps.heap n h.f3 (fun h=>h),h.it,h.nw.trans n,Nat.le_trans h.hM n.size,h.g1,h.g2,h.g3,h.ha⟩
theorem DsS.call {st':RS} (h:DsS w G M S l a c st s acc wr) (hp:RAt w' G l a c st') (hk:KR G wr w'):DsS w G M S l a c st' s acc w':=by
 have g1:=h.g1;have g2:=h.g2;exact⟨hp,⟨hk.heap h.sk.blkP (by omega),h.sk.own.oth hk (fun g hg=>⟨_,_,_,hg▸h.p.bk,by decide,by decide⟩)⟩,hk.heap h.f2 (by omega),hk.heap h.f3 (by omega),h.it,h.nw.keeps hk (fun i hi e=>by omega),Nat.le_trans h.hM hk.size,h.g1,h.g2,h.g3,h.ha⟩
theorem DsS.name (h:DsS w G M S l a c st s acc wr) (v:ByteArray):DsS w G M S l a c st { s with name:=v } acc (wr.setCell ⟨S,0,none⟩ (.string v)):=by
 have ks:Keeps (fun b=>b=S) wr (wr.setCell ⟨S,0,none⟩ (.string v)):=Keeps.setCell wr _ _ rfl;have g1:=h.g1;have g2:=h.g2;have hb:=block_setCell (i:=0) h.sk.blkP (.string v);exact⟨h.p.keeps ks (by omega) (fun g hg e=>by have:=h.ha g hg;omega),⟨by rw[hb];simp,have:=h.sk.own.oth ks (fun g hg=>⟨_,_,_,hg▸h.sk.blkP,by decide,by decide⟩);⟨this.io,this.nx,this.ap⟩⟩,ks.heap h.f2 (by omega),ks.heap h.f3 (by omega),h.it,h.nw.keeps ks (fun i hi e=>by omega),Nat.le_trans h.hM ks.size,h.g1,h.g2,h.g3,h.ha⟩
theorem DsS.add {w2 w3:World} (h:DsS w G M S l a c st s acc wr) {st':RS} (hp:RAt w2 G l a c st') (kG:KR G wr w2) (x:LIt) {ao:Option Addr} {co:Nat} (hx:bc w2 wr.heap.size ao co x.xs)
  {w1:World} (kl:New w2 w1) {a':Option Addr} {c':Nat} (ho:w3.ownsRow M ItT 11 (.slice a' (s.items.length+1) c') (s.items.length+1) (s.items.flatMap br++br (x.mem ao co))) (hk:Keeps (blk s.ia) w1 w3):
  (w3.cell? ⟨S,1,none⟩=some (.slice s.ia s.items.length s.ic)∧w3.frozen? ⟨S,1,none⟩=false∧S<w3.heap.size)∧
  DsS w G M S l a c st' { s with ia:=a',ic:=c',items:=s.items++[x.mem ao co] } (acc++[x]) (w3.setCell ⟨S,1,none⟩ (.slice a' (s.items.length+1) c')):=by
 have h2:=h.call hp kG;have hM2:=h.hM;have g1:=h.g1;have g2:=h.g2;have g3:=h.g3;have h3:SkB w2 M S s:=h2.sk;have hx2:bc w1 M (x.mem ao co).a (x.mem ao co).c (x.mem ao co).xs:=bc.base (kl.owns hx) hM2;have hsb:∀g,blk s.ia g->M<=g∧g<w2.heap.size:=fun g hg=>ai h3.own.io hg
 have bi:∀g,blk (x.mem ao co).a g->wr.heap.size<=g:=fun g hg=>(ai hx hg).1
 have hd:∀g,blk (x.mem ao co).a g->∀y∈s.items,¬blk y.a g:=fun g hg y hy hb=>by
  have h1:=(ai (h.sk.own.nx y hy) hb).2;have h4:=bi g hg;omega
 have cw:∀g,blk s.ia g->∃cur,w1.heap[g]? =some (.cells cur ItT (0,0)):=fun g hg=>aL (kl.owns h3.own.io) (aV hg)
 have hto:∀e:TypeId,ItT≠e->∀g,blk s.ia g->∃cur t fr,w1.heap[g]? =some (.cells cur t fr)∧t≠e:=fun e he g hg=>by
  obtain⟨cur,hc⟩:=cw g hg;exact⟨cur,_,_,hc,he⟩
 have hP1:=Keeps.heap kl h3.blkP (fun h=>h);have hP3:=hk.heap hP1 (fun hb=>by have:=hsb _ hb;omega);have hP4:=block_setCell (i:=1) hP3 (.slice a' (s.items.length+1) c');have hks:Keeps (fun k=>k=S) w3 (w3.setCell ⟨S,1,none⟩ (.slice a' (s.items.length+1) c')):=Keeps.setCell w3 _ _ rfl;have htP:∀e:TypeId,52≠e->∀g,g=S->∃cur t fr,w3.heap[g]? =some (.cells cur t fr)∧t≠e:=fun e he g hg=>⟨_,_,_,hg▸hP3,he⟩
 refine⟨⟨?_,unfrozen_of_block hP3 1,(Array.getElem?_eq_some_iff.1 hP3).1⟩,?_,⟨?_,?_,?_,?_⟩,?_,?_,?_,?_,?_,h.g1,h.g2,h.g3,h.ha⟩
 ·rw[cell_of_block hP3 1];rfl
 ·exact((hp.new kl).keeps hk (fun hb=>by have:=hsb _ hb;omega) (fun g hg hb=>by have h5:=hsb _ hb;have h6:=h.ha g hg;omega)).keeps hks (by omega) (fun g hg e=>by have h6:=h.ha g hg;omega)
 ·rw[hP4];simp
 ·have:=al ho hks (htP _ (by decide));simpa using this
 ·intro y hy;rcases List.mem_append.1 hy with hy|hy
  ·exact al (al (kl.owns (h3.own.nx y hy)) hk (hto _ (by decide))) hks (htP _ (by decide))
  ·rw[List.mem_singleton.1 hy];exact al (al hx2 hk (hto _ (by decide))) hks (htP _ (by decide))
 ·simp only[List.map_append,List.map_cons,List.map_nil];rw[List.pairwise_append];refine⟨h.sk.own.ap,List.pairwise_singleton _ _,fun b hb c hc=>?_⟩;rw[List.mem_singleton.1 hc];intro k hk1 hk2;obtain⟨y,hy,rfl⟩:=List.mem_map.1 hb;exact hd k hk2 y hy hk1
 ·exact hks.heap (hk.heap (Keeps.heap kl h2.f2 (fun h=>h)) (fun hb=>by have:=hsb _ hb;omega)) (by omega)
 ·exact hks.heap (hk.heap (Keeps.heap kl h2.f3 (fun h=>h)) (fun hb=>by have:=hsb _ hb;omega)) (by omega)
 ·show(s.items++[x.mem ao co]).map SIt.bare=(acc++[x]).map _
  rw[List.map_append,List.map_append,h.it];rfl
 ·exact((h2.nw.trans kl).keeps hk (fun i hi hb=>by have:=hsb _ hb;have:=h.nw.size;omega)).keeps hks (fun i hi e=>by omega)
 ·have a1:=kG.size;have a2:=kl.size;have a3:=hk.size;have a4:=hks.size;omega
end
theorem oY {l:List LTok} {k3 k':Nat} {acc:List LIt} {f:Nat} (hl:acc.length+(f+1)=l.length) (hI:∀f,bJ (acc.length+f) l k3=(bJ f l k').bind fun xs m=> .good (acc++xs) m):
  (ce 3 [125] l k'=true->bJ l.length l k3= .good acc k')∧(ce 3 [125] l k'=false->∀j,bN l k'= .bad j->bJ l.length l k3= .bad j)∧
  (ce 3 [125] l k'=false->∀x m,bN l k'= .good x m->∀f,bJ ((acc++[x]).length+f) l k3=(bJ f l m).bind fun xs n=> .good ((acc++[x])++xs) n):=by
 refine⟨fun h=>?_,fun h j hj=>?_,fun h x m hx f'=>?_⟩
 ·rw[<-hl,hI (f+1),bJ,if_pos h,PR.bind_good,List.append_nil]
 ·rw[<-hl,hI (f+1),bJ,if_neg (by rw[h];simp),hj,PR.bind_bad,PR.bind_bad]
 ·have e:(acc++[x]).length+f'=acc.length+(f'+1):=by simp;omega
  rw[e,hI (f'+1),bJ,if_neg (by rw[h];simp),hx,PR.bind_good,PR.bind_assoc];congr 1;funext xs n
  rw[PR.bind_good];simp
def nS (l:List LTok) (s3 st:RS) (acc:List LIt):Prop:=
 (st.2=true->s3.2=true∧acc.length+s3.1<=st.1∧∀f,bJ (acc.length+f) l s3.1=(bJ f l st.1).bind fun xs m=> .good (acc++xs) m)∧(st.2=false->(s3.2=false->st=s3)∧(s3.2=true->bJ l.length l s3.1= .bad st.1))
theorem nS.start (l:List LTok) (s3:RS):nS l s3 s3 []:=by
 refine⟨fun h=>⟨h,by simp,fun f=>?_⟩,fun h=>⟨fun _=>rfl,fun h2=>by rw[h] at h2;cases h2⟩⟩;simp only[List.length_nil,Nat.zero_add,List.nil_append];cases bJ f l s3.1<;>rfl
theorem nS.dead {l:List LTok} {s3 st:RS} {acc:List LIt} (h:nS l s3 st acc) (hd:st.2=false):qt l s3 acc st:=
 ⟨fun h3=>(h.2 hd).1 h3,fun h3=>⟨fun h4=>(by rw[hd] at h4;cases h4),fun _=>(h.2 hd).2 h3⟩⟩
theorem nS.stop {l:List LTok} {s3:RS} {k:Nat} {acc:List LIt} (h:nS l s3 (k,true) acc) (hk:k<l.length) (hl:ce 3 [125] l k=true):qt l s3 acc (k,true):=by
 obtain⟨h3,hle,hI⟩:=h.1 rfl;simp only at hle;refine⟨fun h4=>(by rw[h3] at h4;cases h4),fun _=>⟨fun _=>?_,fun h4=>by cases h4⟩⟩;exact(oY (f:=l.length-acc.length-1) (by omega) hI).1 hl
theorem nS.step {l:List LTok} {s3:RS} {k:Nat} {acc:List LIt} (he:dT l) (h:nS l s3 (k,true) acc) (hk:k<l.length) (hl:ce 3 [125] l k=false):nS l s3 (kX l k).2 (acc++[(kX l k).1]):=by
 obtain⟨h3,hle,hI⟩:=h.1 rfl;simp only at hle;obtain⟨-,hb,hg⟩:=oY (f:=l.length-acc.length-1) (by omega) hI;have hs:=rT l k hk;cases hp:bN l k with
 |bad j=>
  rw[hp] at hs;have e:(kX l k).2=(j,false):=hs;rw[e];exact⟨fun h=>(by cases h),fun _=>⟨fun h4=>(by rw[h3] at h4;cases h4),fun _=>hb hl j hp⟩⟩
 |good x m=>
  rw[hp] at hs;have e:kX l k=(x,(m,true)):=hs;have hkm:=(he.item hp).2;rw[e];exact⟨fun _=>⟨h3,(by simp;omega),hg hl x m hp⟩,fun h=>(by cases h)⟩
theorem rS {l:List LTok} {k j:Nat} (hk:k<l.length) (h:bN l k= .bad j):k<=j:=by
 have hg:=List.getElem?_eq_getElem hk;have hag:cD k l l:=⟨fun i hi=>⟨l[i],l[i],List.getElem?_eq_getElem (by omega),List.getElem?_eq_getElem (by omega),rfl,rfl,rfl⟩,l[k],hg,.inr ⟨l[k],hg,rfl,rfl,rfl⟩⟩
 have hd:=hag.item k;rw[h] at hd;exact hd.1
def Ao (w:World) (G:Nat):Nat:=match w.cell? ⟨G,2,none⟩ with
 |some (.bool true)=>1
 |_=>0
theorem uU {w:World} {G:Nat} {l:List LTok} {a:Option Addr} {c:Nat} {s:RS} (h:RAt w G l a c s):Ao w G=if s.2 then 1 else 0:=by
 unfold Ao;rw[h.cells.2.2.1];cases s.2<;>rfl
theorem rk {w:World} {G:Nat} {l:List LTok} {a:Option Addr} {c:Nat} {s:RS} (h:RAt w G l a c s):fB w G=s.1:=by
 unfold fB;rw[h.cells.2.1];exact Int.toNat_natCast _
theorem vL {w Wf:World} {l:List LTok} {a:Option Addr} {c S G:Nat} (hS:Wf.heap.size=S) (hG:S+1=G) (hN:New w Wf) (hb:Wf.heap[w.heap.size]? =some (.cells #[.string ⟨#[]⟩,.slice none 0 0] 52 (0,0))∧Wf.heap[w.heap.size+1]? =some (.cells #[I 0,I 0] 33 (0,0))) (hsl:ar Wf a (l.flatMap bm)) (hab:∀g,blk a g->w.heap.size+2<=g∧g<S) (hl:l.length<=2000000) (h0:0<l.length) (hw:w.heap.size+2<=S):
  DsS w G (G+1) S l a c (0,true) ⟨⟨#[]⟩,none,0,[]⟩ [] ((Wf.alloc (.cells #[.string ⟨#[]⟩,.slice none 0 0] 52)).alloc (.cells #[.slice a l.length c,I ((0:Nat):Int),.bool true] 116)):=by
 subst hS hG;have hz:(Wf.alloc (.cells #[.string ⟨#[]⟩,.slice none 0 0] 52)).heap.size=Wf.heap.size+1:=by simp
 have n1:New Wf (Wf.alloc (.cells #[.string ⟨#[]⟩,.slice none 0 0] 52)):=(New.refl _).alloc _;have n2:New (Wf.alloc (.cells #[.string ⟨#[]⟩,.slice none 0 0] 52)) ((Wf.alloc (.cells #[.string ⟨#[]⟩,.slice none 0 0] 52)).alloc (.cells #[.slice a l.length c,I ((0:Nat):Int),.bool true] 116)):=(New.refl _).alloc _;have hb2:=heap_alloc_new (Wf.alloc (.cells #[.string ⟨#[]⟩,.slice none 0 0] 52)) (.cells #[.slice a l.length c,I ((0:Nat):Int),.bool true] 116);rw[hz] at hb2;refine⟨⟨hb2,hsl.new (n1.trans n2),fun h=>by have:=hab _ h;omega,hl,h0⟩,⟨Keeps.heap n2 (heap_alloc_new Wf _) (fun h=>h),World.ownsRow_nil _ _ _ _,(fun x hx=>by cases hx),List.Pairwise.nil⟩,Keeps.heap (n1.trans n2) hb.1 (fun h=>h),Keeps.heap (n1.trans n2) hb.2 (fun h=>h),rfl,hN.trans (n1.trans n2),by simp,hw,by omega,by omega,fun g hg=>hab g hg⟩
def uz (w:World) (res:Except (Int×Nat) LSk) (e:Ending) (w':World):Prop:=match res with
 | .error (c,a)=>e= .returned (.tuple #[.agg #[.string ⟨#[]⟩,.slice none 0 0],.agg #[I c,I (a:Int)]])∧New w w'
 | .ok x=>∃s:Sk,s.bare=x.mem∧e= .returned (.tuple #[s.v,.agg #[I 0,I 0]])∧SkAt w' s∧New w w'
theorem ue (w:World) (s:ByteArray) (hs:s.size<=9223372036854775807):
  Calls Tryz.prog 27 #[.string s] w (uz w (cz s.data.toList)):=by
 obtain⟨i0,hi,hz0,hz1,hz2⟩:=info_parts oA;have hz:(w.alloc (.cells #[.string ⟨#[]⟩,.slice none 0 0] 52)).heap.size=w.heap.size+1:=by simp
 have n0:New w ((w.alloc (.cells #[.string ⟨#[]⟩,.slice none 0 0] 52)).alloc (.cells #[I 0,I 0] 33)):=((New.refl w).alloc _).alloc _;have hb2:((w.alloc (.cells #[.string ⟨#[]⟩,.slice none 0 0] 52)).alloc (.cells #[I 0,I 0] 33)).heap[w.heap.size]? =some (.cells #[.string ⟨#[]⟩,.slice none 0 0] 52 (0,0)):=Keeps.heap (Keeps.alloc (S:=fun _=>False) _ _) (heap_alloc_new w _) (fun h=>h);have hb3:((w.alloc (.cells #[.string ⟨#[]⟩,.slice none 0 0] 52)).alloc (.cells #[I 0,I 0] 33)).heap[w.heap.size+1]? =some (.cells #[I 0,I 0] 33 (0,0)):=by
  have:=heap_alloc_new (w.alloc (.cells #[.string ⟨#[]⟩,.slice none 0 0] 52)) (.cells #[I 0,I 0] 33);rwa [hz] at this
 have C4:((w.alloc (.cells #[.string ⟨#[]⟩,.slice none 0 0] 52)).alloc (.cells #[I 0,I 0] 33)).heap.size=w.heap.size+1+1:=by simp
 have di:=zn ((w.alloc (.cells #[.string ⟨#[]⟩,.slice none 0 0] 52)).alloc (.cells #[I 0,I 0] 33)) s hs;obtain⟨⟨l,c,k⟩,hA⟩:∃r,eR s.data.toList=r:=⟨_,rfl⟩
 obtain⟨PO,hPO⟩:∃PO:Ending->World->Prop,PO=uz w (cz s.data.toList):=⟨_,rfl⟩
 rw[<-hPO];have HPO:=Lib.hid hPO;have HB:=Lib.hid (And.intro hb2 hb3);have HN0:=Lib.hid n0;have HZ2:=Lib.hid C4;have HAA:=Lib.hid hA;clear hPO hb2 hb3 n0 hz C4;go_enter Tryz.func27,Tryz.ntmps27;go_wp2_with fail;generalize((w.alloc (.cells #[.string ⟨#[]⟩,.slice none 0 0] 52)).alloc (.cells #[I 0,I 0] 33))=W at*;refine di.mono ?_;rintro e w1 ⟨a,cc,rfl,n1,aK⟩;rw[HAA.out] at aK ⊢;simp only at aK ⊢;have n1':=HN0.out.trans n1;have nf:New w1 (w1.alloc (.cells #[I c,I (k:Int)] 33)):=(New.refl _).alloc _;obtain⟨f0,f1,-,-,fl⟩:=aT (heap_alloc_new w1 (.cells #[I c,I (k:Int)] 33));have HN1:=Lib.hid (n1'.trans nf);have HBB:=Lib.hid (And.intro (Keeps.heap (n1.trans nf) HB.out.1 (fun h=>h)) (Keeps.heap (n1.trans nf) HB.out.2 (fun h=>h)));have HSL:=Lib.hid ((ar.of_owns aK).new nf);have hab:∀g,blk a g->w.heap.size+2<=g∧g<w1.heap.size:=fun g hg=>by have:=ai aK hg;have:=HZ2.out;omega
 have HAB:=Lib.hid hab;have D0:w.heap.size+2<=w1.heap.size:=by have:=n1.size;have:=HZ2.out;omega
 clear di aK n1 n1' nf hab HB HN0;by_cases hc:c=0
 ·have hk0:k=0:=by rcases gh HAA.out with⟨_,e,_⟩|⟨⟨e,_⟩|⟨e,_⟩,_⟩<;>omega
  subst hc hk0;have hE:=pH HAA.out;have CP:l.length<=2000000:=by have:=(lm (l:=s.data.toList)).1;rw[HAA.out] at this;simp only at this;omega
  have hl0:0<l.length:=List.length_pos_iff.2 hE.1;have HPP:Hid (cz s.data.toList=match cV l with| .good x _=> .ok x| .bad j=> .error (50,atT l j)):=Lib.hid (oR HAA.out);obtain⟨Sb,hSb⟩:∃b,w1.heap.size+1=b:=⟨_,rfl⟩
  obtain⟨G,hG⟩:∃b,Sb+1=b:=⟨_,rfl⟩
  obtain⟨r0,hr0⟩:∃r,cE l 1 fe (0,true)=r:=⟨_,rfl⟩
  obtain⟨r2,hr2⟩:∃r,cq l r0=r:=⟨_,rfl⟩
  obtain⟨nm,s2⟩:=r2;obtain⟨s3,hs3⟩:∃r,cE l 3 [123] s2=r:=⟨_,rfl⟩
  have yC:zk l=(nm,s3):=by unfold zk;simp only[hr0,hr2,hs3]
  have hmu:=fun W (r:RAt W G l a cc (0,true))=>eA W _ l a cc (0,true) hE r 1 (by decide) ⟨#[103,114,97,112,104]⟩ fe rfl
  rw[hr0] at hmu;have hwo:=fun W (r:RAt W G l a cc r0)=>gV W _ l a cc r0 hE r
  rw[hr2] at hwo;have hm3:=fun W (r:RAt W G l a cc s2)=>eA W _ l a cc s2 hE r 3 (by decide) ⟨#[123]⟩ [123] rfl
  rw[hs3] at hm3;obtain⟨NB,hNB⟩:∃S:ByteArray,(⟨nm.toArray⟩:ByteArray)=S:=⟨_,rfl⟩
  simp only[hNB] at hwo;have HNB:=Lib.hid hNB;have Cb:=Lib.hid yC;have HEE:=Lib.hid hE;clear yC hNB hr0 hr2 hs3;go_upto_region 4 with(fail)
  obtain⟨Wf,hWf⟩:∃x,x=w1.alloc (.cells #[I 0,I 0] 33):=⟨_,rfl⟩
  have hfz:Wf.heap.size=Sb:=by rw[hWf,<-hSb];simp
  have e0:(w1.alloc (.cells #[I 0,I ((0:Nat):Int)] 33))=Wf:=hWf.symm;rw[e0] at HN1 HBB HSL f0 f1 fl;(try rw[e0])
  (try rw[<-hWf])
  clear hWf e0;have HD0:=Lib.hid (vL (c:=cc) hfz hG HN1.out HBB.out HSL.out (fun g hg=>by have:=HAB.out g hg;omega) CP hl0 (by omega));have hh:=hmu _ HD0.out.p;clear hmu f0 f1 fl HSL HBB HN1 HAB D0;go_wp2_with fail;(try rw[hSb])
  (try simp only[hSb])
  (try rw[hG])
  (try simp only[hG])
  refine hh.mono ?_;rintro e w3 ⟨rfl,H3,k3⟩;have HD1:=Lib.hid (HD0.out.call H3 k3);have hh2:=hwo _ HD1.out.p;clear hh HD0 H3 k3 hwo hfz;go_wp2_with fail;refine hh2.mono ?_;rintro e w4 ⟨rfl,H3,k3⟩;have HD2:=Lib.hid (HD1.out.call H3 k3);obtain⟨p0,p1,pf0,pf1,hPl⟩:=aT HD2.out.sk.blkP;have HD3:=Lib.hid (HD2.out.name NB);have hh3:=hm3 _ HD3.out.p;clear hh2 HD1 H3 k3 HD2 hm3;go_wp2_with fail;refine hh3.mono ?_;rintro e w5 ⟨rfl,H3,k3⟩;have HD4:=Lib.hid (HD3.out.call H3 k3);clear hh3 HD3 H3 k3 p0 p1 pf0 pf1 hPl;go_wp2_with fail;go_loopw [] (fun wr=>∃(st:RS) (s':Sk) (acc:List LIt),Hid (DsS w G (G+1) Sb l a cc st s' acc wr)∧Hid (s'.name=NB)∧Hid (nS l s3 st acc)∧s'.items.length<=l.length) (fun wr=>2*(l.length-fB wr G)+Ao wr G)
  case atStart=>exact⟨s3,_,[],HD4,Lib.hid rfl,Lib.hid (nS.start l s3),by simp⟩
  case round=>
   clear HD4;obtain⟨st,s',acc,HD,HNM,HL,hil⟩:=hrel;obtain⟨k,ok⟩:=st;obtain⟨c0,c1,c2,-,-,hGl⟩:=HD.out.p.cells;simp only at c1 c2;cases ok with
   |false=>
    have HLE:=Lib.hid (HL.out.dead rfl);go_wp2_with fail;clear c0 c1 c2 hGl;obtain⟨s5,hs5⟩:∃r,cE l 3 [125] (k,false)=r:=⟨_,rfl⟩
    have hm5:=fun W (r:RAt W G l a cc (k,false))=>eA W G l a cc (k,false) HEE.out r 3 (by decide) ⟨#[125]⟩ [125] rfl
    rw[hs5] at hm5;have hh5:=hm5 _ HD.out.p;clear hm5;refine hh5.mono ?_;rintro e w8 ⟨rfl,H8,k8⟩;have HD8:=Lib.hid (HD.out.call H8 k8);clear hh5 H8 k8 HD;obtain⟨k5,o5⟩:=s5;obtain⟨t5,ht5,b5,of5,e5,q0,q1,q2,q3⟩:=HD8.out.p.tok;have hpe:=pV Cb.out HLE.out (t:=t5) (by rw[hs5];exact ht5);rw[hs5] at hpe;simp only at ht5 q0 q1 q2 q3 hpe;obtain⟨c0,c1,c2,-,-,hGl⟩:=HD8.out.p.cells;simp only at c1 c2;have hb5:=World.block_lt_of_cell? _ _ q0;have yo:=HD8.out.p.lt;have Br:=HD8.out.p.le;simp only at yo;obtain⟨n5,hn5⟩:∃n,l.length=n:=⟨_,rfl⟩
    rw[hn5] at c0 yo Br;have DD:(k5:Int)<(n5:Int):=by omega
    have xZ:atT l k5=t5.at_:=by unfold atT;rw[ht5];rfl
    have HPE:=Lib.hid hpe;have xm:=Lib.hid xZ;have HE5:=Lib.hid e5;rw[e5] at c0;obtain⟨so5,tx5,nu5,at5⟩:=t5;obtain⟨TX5,xY⟩:∃T:ByteArray,(⟨tx5.toArray⟩:ByteArray)=T:=⟨_,rfl⟩
    simp only[xY] at q0 q1 q2 q3;obtain⟨x0,x1,xf0,xf1,hXl⟩:=aT HD8.out.f2;obtain⟨y0,y1,yf0,yf1,hYl⟩:=aT HD8.out.f3;obtain⟨g0,g1,-,-,hSl⟩:=aT HD8.out.sk.blkP;have hx2:=cB HD8.out.f2;have hx3:=cB HD8.out.f3;have HX:=Lib.hid (And.intro hx2 hx3);have Bv:w.heap.size+1≠w.heap.size:=by omega
    clear hpe xZ xY hx2 hx3 ht5 e5 hn5 hs5 HLE hil;cases o5 with
    |false=>
     have hpm:=HPE.out.2 (fun h=>absurd h.1 (by simp));have HPM:=Lib.hid hpm;clear hpm;go_wp2_with fail;have hS0:(fun w':World=>w'.cell? ⟨G,0,none⟩=some (.slice (some ⟨b5,of5,none⟩) n5 cc)∧w'.cell? ⟨G,1,none⟩=some (I (k5:Int))∧w'.cell? ⟨b5,of5+k5*4+3,none⟩=some (I (at5:Int))∧G<w'.heap.size∧b5<w'.heap.size) w8.drew:=⟨c0,c1,q3,hGl,hb5⟩
     refine aj (fun w':World=>w'.cell? ⟨G,0,none⟩=some (.slice (some ⟨b5,of5,none⟩) n5 cc)∧w'.cell? ⟨G,1,none⟩=some (I (k5:Int))∧w'.cell? ⟨b5,of5+k5*4+3,none⟩=some (I (at5:Int))∧G<w'.heap.size∧b5<w'.heap.size) [10] (by kernel_rfl) hS0 ?_;have tv:=And.intro HD8.out.g1 HD8.out.g2;have hbr:w.heap.size+2<=b5:=(HD8.out.ha b5 ⟨_,HE5.out,rfl⟩).1;have hS9:∀W',Keeps (fun k=>k=w.heap.size) w8.drew W'->(fun w':World=>w'.cell? ⟨G,0,none⟩=some (.slice (some ⟨b5,of5,none⟩) n5 cc)∧w'.cell? ⟨G,1,none⟩=some (I (k5:Int))∧w'.cell? ⟨b5,of5+k5*4+3,none⟩=some (I (at5:Int))∧G<w'.heap.size∧b5<w'.heap.size) W':=fun W' kk=>
      ⟨kk.cell hS0.1 (by show ¬G=_;omega),kk.cell hS0.2.1 (by show ¬G=_;omega),kk.cell hS0.2.2.1 (by show ¬b5=_;omega),Nat.lt_of_lt_of_le hS0.2.2.2.1 kk.size,Nat.lt_of_lt_of_le hS0.2.2.2.2 kk.size⟩
     refine ae 0 hS0 ?_;refine ae 1 hS0 ?_;refine ae 2 hS0 ?_;refine ae 3 hS0 ?_;refine ae 4 hS0 ?_;refine ae 5 hS0 ?_;refine ae 6 hS0 ?_;refine ae 7 hS0 ?_;refine ae 8 hS0 ?_;refine ag 9 ?_;intro K hK;(try simp only[Act.put,sLs])
     go_simp;refine hK _ _ (fun _=>hS9 _ ((Keeps.setCell (S:=fun k=>k=w.heap.size) w8.drew _ _ rfl).trans (Keeps.setCell (S:=fun k=>k=w.heap.size) _ _ _ rfl) (fun _ _ h=>h))) ?_;clear hK K;refine ag 10 ?_;intro K hK;(try simp only[Act.put,sLs])
     go_simp;refine hK _ _ (fun hx=>by cases hx) ?_;clear hK K;refine av (by kernel_rfl) ?_;(try simp only[Act.put,sLs])
     (try simp only[Exit.then])
     go_wp2_with fail;clear hS0 hS9 tv hbr c0 c1 c2 hGl q0 q1 q2 q3 hb5 x0 x1 xf0 xf1 hXl y0 y1 yf0 yf1 hYl g0 g1 hSl;have hB2:=cB HD8.out.f2 (.string ⟨#[]⟩) (.slice none 0 0);have hy3:=hB2.2.heap HD8.out.f3 (by omega);have hB3:=cB hy3 (I 50) (I (at5:Int));have iZ:=hB3.2.heap hB2.1 (by omega);have kd:=(hB2.2.mono (T:=fun k=>k=w.heap.size∨k=w.heap.size+1) (fun _ _ h=> .inl h)).trans hB3.2 (fun _ _ h=> .inr h);have hdr:=(New.refl ((((w8.setCell ⟨w.heap.size,0,none⟩ (.string ⟨#[]⟩)).setCell ⟨w.heap.size,1,none⟩ (.slice none 0 0)).setCell ⟨w.heap.size+1,0,none⟩ (I 50)).setCell ⟨w.heap.size+1,1,none⟩ (I (at5:Int)))).drew;have hnew:=(HD8.out.nw.keeps kd (fun i hi h=>by rcases h with h|h<;>omega)).trans hdr;have iF:=Keeps.heap hdr iZ (fun h=>h);have fI:=Keeps.heap hdr hB3.1 (fun h=>h);clear hB2 hy3 hB3 kd iZ hdr;generalize(((((w8.setCell ⟨w.heap.size,0,none⟩ (.string ⟨#[]⟩)).setCell ⟨w.heap.size,1,none⟩ (.slice none 0 0)).setCell ⟨w.heap.size+1,0,none⟩ (I 50)).setCell ⟨w.heap.size+1,1,none⟩ (I (at5:Int))).drew)=Wz at hnew iF fI ⊢;obtain⟨r0,r1,-,-,-⟩:=aT iF;obtain⟨v0,v1,-,-,-⟩:=aT fI;refine bodyPost_ret (v:= .tuple #[.agg #[.string ⟨#[]⟩,.slice none 0 0],.agg #[I 50,I (at5:Int)]]) (by simp[results,Tryz.results27,go_sem,r0,r1,v0,v1]) rfl ?_;rw[HPO.out];have eC:cz s.data.toList= .error (50,at5):=by rw[HPP.out,HPM.out];simp only;rw[xm.out]
     rw[eC];exact⟨rfl,hnew⟩
    |true=>
     by_cases hso5:so5=0
     ·subst hso5;have hpm:=HPE.out.1 ⟨rfl,rfl⟩;have HPM:=Lib.hid hpm;clear hpm;go_wp2_with fail;clear c0 c1 c2 hGl q0 q1 q2 q3 hb5 x0 x1 xf0 xf1 hXl y0 y1 yf0 yf1 hYl g0 g1 hSl;have hB2:=(HX.out.1 (.string s'.name) (.slice s'.ia s'.items.length s'.ic))
      have hy3:=hB2.2.heap HD8.out.f3 Bv;have hB3:=cB hy3 (I 0) (I 0);have iZ:=hB3.2.heap hB2.1 (by omega);have kd:Keeps (fun k=>k=w.heap.size∨k=w.heap.size+1) w8 _:=(hB2.2.mono (fun _ _ h=> .inl h)).trans hB3.2 (fun _ _ h=> .inr h);have hnew:=HD8.out.nw.keeps kd (fun i hi h=>by rcases h with h|h<;>omega);have aK:=HD8.out.sk.own.oth kd (fun g hg=>by
       rcases hg with rfl|rfl
       ·exact⟨_,_,_,HD8.out.f2,by decide,by decide⟩
       ·exact⟨_,_,_,HD8.out.f3,by decide,by decide⟩)
      have fI:=hB3.1;clear hB2 hy3 hB3 kd;generalize((((w8.setCell ⟨w.heap.size,0,none⟩ (.string s'.name)).setCell ⟨w.heap.size,1,none⟩ (.slice s'.ia s'.items.length s'.ic)).setCell ⟨w.heap.size+1,0,none⟩ (I 0)).setCell ⟨w.heap.size+1,1,none⟩ (I 0))=Wz at hnew aK iZ fI ⊢;obtain⟨r0,r1,-,-,-⟩:=aT iZ;obtain⟨v0,v1,-,-,-⟩:=aT fI;refine bodyPost_ret (v:= .tuple #[.agg #[.string s'.name,.slice s'.ia s'.items.length s'.ic],.agg #[I 0,I 0]]) (by simp[results,Tryz.results27,go_sem,r0,r1,v0,v1]) rfl ?_;rw[HPO.out];obtain⟨mm,hmm⟩:=HPM.out;have eC:cz s.data.toList= .ok ⟨nm,acc⟩:=by rw[HPP.out,hmm]
      rw[eC];refine⟨s',?_,rfl,aK.at,hnew⟩;unfold Sk.bare LSk.mem;rw[HD8.out.it,HNM.out,HNB.out]
     ·have e9:(so5 != 0)=true:=by simpa using hso5
      have hpm:=HPE.out.2 (fun h=>hso5 h.2);have HPM:=Lib.hid hpm;clear hpm hso5;go_wp2_with fail;have hS0:(fun w':World=>w'.cell? ⟨G,0,none⟩=some (.slice (some ⟨b5,of5,none⟩) n5 cc)∧w'.cell? ⟨G,1,none⟩=some (I (k5:Int))∧w'.cell? ⟨b5,of5+k5*4+3,none⟩=some (I (at5:Int))∧G<w'.heap.size∧b5<w'.heap.size) w8.drew:=⟨c0,c1,q3,hGl,hb5⟩
      refine aj (fun w':World=>w'.cell? ⟨G,0,none⟩=some (.slice (some ⟨b5,of5,none⟩) n5 cc)∧w'.cell? ⟨G,1,none⟩=some (I (k5:Int))∧w'.cell? ⟨b5,of5+k5*4+3,none⟩=some (I (at5:Int))∧G<w'.heap.size∧b5<w'.heap.size) [10] (by kernel_rfl) hS0 ?_;have tv:=And.intro HD8.out.g1 HD8.out.g2;have hbr:w.heap.size+2<=b5:=(HD8.out.ha b5 ⟨_,HE5.out,rfl⟩).1;have hS9:∀W',Keeps (fun k=>k=w.heap.size) w8.drew W'->(fun w':World=>w'.cell? ⟨G,0,none⟩=some (.slice (some ⟨b5,of5,none⟩) n5 cc)∧w'.cell? ⟨G,1,none⟩=some (I (k5:Int))∧w'.cell? ⟨b5,of5+k5*4+3,none⟩=some (I (at5:Int))∧G<w'.heap.size∧b5<w'.heap.size) W':=fun W' kk=>
       ⟨kk.cell hS0.1 (by show ¬G=_;omega),kk.cell hS0.2.1 (by show ¬G=_;omega),kk.cell hS0.2.2.1 (by show ¬b5=_;omega),Nat.lt_of_lt_of_le hS0.2.2.2.1 kk.size,Nat.lt_of_lt_of_le hS0.2.2.2.2 kk.size⟩
      refine ae 0 hS0 ?_;refine ae 1 hS0 ?_;refine ae 2 hS0 ?_;refine ae 3 hS0 ?_;refine ae 4 hS0 ?_;refine ae 5 hS0 ?_;refine ae 6 hS0 ?_;refine ae 7 hS0 ?_;refine ae 8 hS0 ?_;refine ag 9 ?_;intro K hK;(try simp only[Act.put,sLs])
      go_simp;refine hK _ _ (fun _=>hS9 _ ((Keeps.setCell (S:=fun k=>k=w.heap.size) w8.drew _ _ rfl).trans (Keeps.setCell (S:=fun k=>k=w.heap.size) _ _ _ rfl) (fun _ _ h=>h))) ?_;clear hK K;refine ag 10 ?_;intro K hK;(try simp only[Act.put,sLs])
      go_simp;refine hK _ _ (fun hx=>by cases hx) ?_;clear hK K;refine av (by kernel_rfl) ?_;(try simp only[Act.put,sLs])
      (try simp only[Exit.then])
      go_wp2_with fail;clear hS0 hS9 tv hbr c0 c1 c2 hGl q0 q1 q2 q3 hb5 x0 x1 xf0 xf1 hXl y0 y1 yf0 yf1 hYl g0 g1 hSl;have hB2:=cB HD8.out.f2 (.string ⟨#[]⟩) (.slice none 0 0);have hy3:=hB2.2.heap HD8.out.f3 (by omega);have hB3:=cB hy3 (I 50) (I (at5:Int));have iZ:=hB3.2.heap hB2.1 (by omega);have kd:=(hB2.2.mono (T:=fun k=>k=w.heap.size∨k=w.heap.size+1) (fun _ _ h=> .inl h)).trans hB3.2 (fun _ _ h=> .inr h);have hdr:=(New.refl ((((w8.setCell ⟨w.heap.size,0,none⟩ (.string ⟨#[]⟩)).setCell ⟨w.heap.size,1,none⟩ (.slice none 0 0)).setCell ⟨w.heap.size+1,0,none⟩ (I 50)).setCell ⟨w.heap.size+1,1,none⟩ (I (at5:Int)))).drew;have hnew:=(HD8.out.nw.keeps kd (fun i hi h=>by rcases h with h|h<;>omega)).trans hdr;have iF:=Keeps.heap hdr iZ (fun h=>h);have fI:=Keeps.heap hdr hB3.1 (fun h=>h);clear hB2 hy3 hB3 kd iZ hdr;generalize(((((w8.setCell ⟨w.heap.size,0,none⟩ (.string ⟨#[]⟩)).setCell ⟨w.heap.size,1,none⟩ (.slice none 0 0)).setCell ⟨w.heap.size+1,0,none⟩ (I 50)).setCell ⟨w.heap.size+1,1,none⟩ (I (at5:Int))).drew)=Wz at hnew iF fI ⊢;obtain⟨r0,r1,-,-,-⟩:=aT iF;obtain⟨v0,v1,-,-,-⟩:=aT fI;refine bodyPost_ret (v:= .tuple #[.agg #[.string ⟨#[]⟩,.slice none 0 0],.agg #[I 50,I (at5:Int)]]) (by simp[results,Tryz.results27,go_sem,r0,r1,v0,v1]) rfl ?_;rw[HPO.out];have eC:cz s.data.toList= .error (50,at5):=by rw[HPP.out,HPM.out];simp only;rw[xm.out]
      rw[eC];exact⟨rfl,hnew⟩
   |true=>
    have hi:=fun W (r:RAt W G l a cc (k,true))=>jD W G l a cc k true r 3 ⟨#[125]⟩
    have hkl:=HD.out.p.lt;simp only at hkl;have hh:=hi _ HD.out.p;cases hlk:ce 3 [125] l k with
    |true=>
     rw[show((⟨#[125]⟩:ByteArray).data.toList)=[125] from rfl,hlk] at hh;have HLE:=Lib.hid (HL.out.stop hkl hlk);clear hi;go_wp2_with fail;refine hh.mono ?_;rintro e w7 ⟨rfl,n7⟩;have HD7:=Lib.hid (HD.out.new n7);clear hh n7 HD c0 c1 c2 hGl;have HD:=HD7;clear HD7;go_wp2_with fail;obtain⟨s5,hs5⟩:∃r,cE l 3 [125] (k,true)=r:=⟨_,rfl⟩
     have hm5:=fun W (r:RAt W G l a cc (k,true))=>eA W G l a cc (k,true) HEE.out r 3 (by decide) ⟨#[125]⟩ [125] rfl
     rw[hs5] at hm5;have hh5:=hm5 _ HD.out.p;clear hm5;refine hh5.mono ?_;rintro e w8 ⟨rfl,H8,k8⟩;have HD8:=Lib.hid (HD.out.call H8 k8);clear hh5 H8 k8 HD;obtain⟨k5,o5⟩:=s5;obtain⟨t5,ht5,b5,of5,e5,q0,q1,q2,q3⟩:=HD8.out.p.tok;have hpe:=pV Cb.out HLE.out (t:=t5) (by rw[hs5];exact ht5);rw[hs5] at hpe;simp only at ht5 q0 q1 q2 q3 hpe;obtain⟨c0,c1,c2,-,-,hGl⟩:=HD8.out.p.cells;simp only at c1 c2;have hb5:=World.block_lt_of_cell? _ _ q0;have yo:=HD8.out.p.lt;have Br:=HD8.out.p.le;simp only at yo;obtain⟨n5,hn5⟩:∃n,l.length=n:=⟨_,rfl⟩
     rw[hn5] at c0 yo Br;have DD:(k5:Int)<(n5:Int):=by omega
     have xZ:atT l k5=t5.at_:=by unfold atT;rw[ht5];rfl
     have HPE:=Lib.hid hpe;have xm:=Lib.hid xZ;have HE5:=Lib.hid e5;rw[e5] at c0;obtain⟨so5,tx5,nu5,at5⟩:=t5;obtain⟨TX5,xY⟩:∃T:ByteArray,(⟨tx5.toArray⟩:ByteArray)=T:=⟨_,rfl⟩
     simp only[xY] at q0 q1 q2 q3;obtain⟨x0,x1,xf0,xf1,hXl⟩:=aT HD8.out.f2;obtain⟨y0,y1,yf0,yf1,hYl⟩:=aT HD8.out.f3;obtain⟨g0,g1,-,-,hSl⟩:=aT HD8.out.sk.blkP;have hx2:=cB HD8.out.f2;have hx3:=cB HD8.out.f3;have HX:=Lib.hid (And.intro hx2 hx3);have Bv:w.heap.size+1≠w.heap.size:=by omega
     clear hpe xZ xY hx2 hx3 ht5 e5 hn5 hs5 HLE hil;cases o5 with
     |false=>
      have hpm:=HPE.out.2 (fun h=>absurd h.1 (by simp));have HPM:=Lib.hid hpm;clear hpm;go_wp2_with fail;have hS0:(fun w':World=>w'.cell? ⟨G,0,none⟩=some (.slice (some ⟨b5,of5,none⟩) n5 cc)∧w'.cell? ⟨G,1,none⟩=some (I (k5:Int))∧w'.cell? ⟨b5,of5+k5*4+3,none⟩=some (I (at5:Int))∧G<w'.heap.size∧b5<w'.heap.size) w8.drew:=⟨c0,c1,q3,hGl,hb5⟩
      refine aj (fun w':World=>w'.cell? ⟨G,0,none⟩=some (.slice (some ⟨b5,of5,none⟩) n5 cc)∧w'.cell? ⟨G,1,none⟩=some (I (k5:Int))∧w'.cell? ⟨b5,of5+k5*4+3,none⟩=some (I (at5:Int))∧G<w'.heap.size∧b5<w'.heap.size) [10] (by kernel_rfl) hS0 ?_;have tv:=And.intro HD8.out.g1 HD8.out.g2;have hbr:w.heap.size+2<=b5:=(HD8.out.ha b5 ⟨_,HE5.out,rfl⟩).1;have hS9:∀W',Keeps (fun k=>k=w.heap.size) w8.drew W'->(fun w':World=>w'.cell? ⟨G,0,none⟩=some (.slice (some ⟨b5,of5,none⟩) n5 cc)∧w'.cell? ⟨G,1,none⟩=some (I (k5:Int))∧w'.cell? ⟨b5,of5+k5*4+3,none⟩=some (I (at5:Int))∧G<w'.heap.size∧b5<w'.heap.size) W':=fun W' kk=>
       ⟨kk.cell hS0.1 (by show ¬G=_;omega),kk.cell hS0.2.1 (by show ¬G=_;omega),kk.cell hS0.2.2.1 (by show ¬b5=_;omega),Nat.lt_of_lt_of_le hS0.2.2.2.1 kk.size,Nat.lt_of_lt_of_le hS0.2.2.2.2 kk.size⟩
      refine ae 0 hS0 ?_;refine ae 1 hS0 ?_;refine ae 2 hS0 ?_;refine ae 3 hS0 ?_;refine ae 4 hS0 ?_;refine ae 5 hS0 ?_;refine ae 6 hS0 ?_;refine ae 7 hS0 ?_;refine ae 8 hS0 ?_;refine ag 9 ?_;intro K hK;(try simp only[Act.put,sLs])
      go_simp;refine hK _ _ (fun _=>hS9 _ ((Keeps.setCell (S:=fun k=>k=w.heap.size) w8.drew _ _ rfl).trans (Keeps.setCell (S:=fun k=>k=w.heap.size) _ _ _ rfl) (fun _ _ h=>h))) ?_;clear hK K;refine ag 10 ?_;intro K hK;(try simp only[Act.put,sLs])
      go_simp;refine hK _ _ (fun hx=>by cases hx) ?_;clear hK K;refine av (by kernel_rfl) ?_;(try simp only[Act.put,sLs])
      (try simp only[Exit.then])
      go_wp2_with fail;clear hS0 hS9 tv hbr c0 c1 c2 hGl q0 q1 q2 q3 hb5 x0 x1 xf0 xf1 hXl y0 y1 yf0 yf1 hYl g0 g1 hSl;have hB2:=cB HD8.out.f2 (.string ⟨#[]⟩) (.slice none 0 0);have hy3:=hB2.2.heap HD8.out.f3 (by omega);have hB3:=cB hy3 (I 50) (I (at5:Int));have iZ:=hB3.2.heap hB2.1 (by omega);have kd:=(hB2.2.mono (T:=fun k=>k=w.heap.size∨k=w.heap.size+1) (fun _ _ h=> .inl h)).trans hB3.2 (fun _ _ h=> .inr h);have hdr:=(New.refl ((((w8.setCell ⟨w.heap.size,0,none⟩ (.string ⟨#[]⟩)).setCell ⟨w.heap.size,1,none⟩ (.slice none 0 0)).setCell ⟨w.heap.size+1,0,none⟩ (I 50)).setCell ⟨w.heap.size+1,1,none⟩ (I (at5:Int)))).drew;have hnew:=(HD8.out.nw.keeps kd (fun i hi h=>by rcases h with h|h<;>omega)).trans hdr;have iF:=Keeps.heap hdr iZ (fun h=>h);have fI:=Keeps.heap hdr hB3.1 (fun h=>h);clear hB2 hy3 hB3 kd iZ hdr;generalize(((((w8.setCell ⟨w.heap.size,0,none⟩ (.string ⟨#[]⟩)).setCell ⟨w.heap.size,1,none⟩ (.slice none 0 0)).setCell ⟨w.heap.size+1,0,none⟩ (I 50)).setCell ⟨w.heap.size+1,1,none⟩ (I (at5:Int))).drew)=Wz at hnew iF fI ⊢;obtain⟨r0,r1,-,-,-⟩:=aT iF;obtain⟨v0,v1,-,-,-⟩:=aT fI;refine bodyPost_ret (v:= .tuple #[.agg #[.string ⟨#[]⟩,.slice none 0 0],.agg #[I 50,I (at5:Int)]]) (by simp[results,Tryz.results27,go_sem,r0,r1,v0,v1]) rfl ?_;rw[HPO.out];have eC:cz s.data.toList= .error (50,at5):=by rw[HPP.out,HPM.out];simp only;rw[xm.out]
      rw[eC];exact⟨rfl,hnew⟩
     |true=>
      by_cases hso5:so5=0
      ·subst hso5;have hpm:=HPE.out.1 ⟨rfl,rfl⟩;have HPM:=Lib.hid hpm;clear hpm;go_wp2_with fail;clear c0 c1 c2 hGl q0 q1 q2 q3 hb5 x0 x1 xf0 xf1 hXl y0 y1 yf0 yf1 hYl g0 g1 hSl;have hB2:=(HX.out.1 (.string s'.name) (.slice s'.ia s'.items.length s'.ic))
       have hy3:=hB2.2.heap HD8.out.f3 Bv;have hB3:=cB hy3 (I 0) (I 0);have iZ:=hB3.2.heap hB2.1 (by omega);have kd:Keeps (fun k=>k=w.heap.size∨k=w.heap.size+1) w8 _:=(hB2.2.mono (fun _ _ h=> .inl h)).trans hB3.2 (fun _ _ h=> .inr h);have hnew:=HD8.out.nw.keeps kd (fun i hi h=>by rcases h with h|h<;>omega);have aK:=HD8.out.sk.own.oth kd (fun g hg=>by
        rcases hg with rfl|rfl
        ·exact⟨_,_,_,HD8.out.f2,by decide,by decide⟩
        ·exact⟨_,_,_,HD8.out.f3,by decide,by decide⟩)
       have fI:=hB3.1;clear hB2 hy3 hB3 kd;generalize((((w8.setCell ⟨w.heap.size,0,none⟩ (.string s'.name)).setCell ⟨w.heap.size,1,none⟩ (.slice s'.ia s'.items.length s'.ic)).setCell ⟨w.heap.size+1,0,none⟩ (I 0)).setCell ⟨w.heap.size+1,1,none⟩ (I 0))=Wz at hnew aK iZ fI ⊢;obtain⟨r0,r1,-,-,-⟩:=aT iZ;obtain⟨v0,v1,-,-,-⟩:=aT fI;refine bodyPost_ret (v:= .tuple #[.agg #[.string s'.name,.slice s'.ia s'.items.length s'.ic],.agg #[I 0,I 0]]) (by simp[results,Tryz.results27,go_sem,r0,r1,v0,v1]) rfl ?_;rw[HPO.out];obtain⟨mm,hmm⟩:=HPM.out;have eC:cz s.data.toList= .ok ⟨nm,acc⟩:=by rw[HPP.out,hmm]
       rw[eC];refine⟨s',?_,rfl,aK.at,hnew⟩;unfold Sk.bare LSk.mem;rw[HD8.out.it,HNM.out,HNB.out]
      ·have e9:(so5 != 0)=true:=by simpa using hso5
       have hpm:=HPE.out.2 (fun h=>hso5 h.2);have HPM:=Lib.hid hpm;clear hpm hso5;go_wp2_with fail;have hS0:(fun w':World=>w'.cell? ⟨G,0,none⟩=some (.slice (some ⟨b5,of5,none⟩) n5 cc)∧w'.cell? ⟨G,1,none⟩=some (I (k5:Int))∧w'.cell? ⟨b5,of5+k5*4+3,none⟩=some (I (at5:Int))∧G<w'.heap.size∧b5<w'.heap.size) w8.drew:=⟨c0,c1,q3,hGl,hb5⟩
       refine aj (fun w':World=>w'.cell? ⟨G,0,none⟩=some (.slice (some ⟨b5,of5,none⟩) n5 cc)∧w'.cell? ⟨G,1,none⟩=some (I (k5:Int))∧w'.cell? ⟨b5,of5+k5*4+3,none⟩=some (I (at5:Int))∧G<w'.heap.size∧b5<w'.heap.size) [10] (by kernel_rfl) hS0 ?_;have tv:=And.intro HD8.out.g1 HD8.out.g2;have hbr:w.heap.size+2<=b5:=(HD8.out.ha b5 ⟨_,HE5.out,rfl⟩).1;have hS9:∀W',Keeps (fun k=>k=w.heap.size) w8.drew W'->(fun w':World=>w'.cell? ⟨G,0,none⟩=some (.slice (some ⟨b5,of5,none⟩) n5 cc)∧w'.cell? ⟨G,1,none⟩=some (I (k5:Int))∧w'.cell? ⟨b5,of5+k5*4+3,none⟩=some (I (at5:Int))∧G<w'.heap.size∧b5<w'.heap.size) W':=fun W' kk=>
        ⟨kk.cell hS0.1 (by show ¬G=_;omega),kk.cell hS0.2.1 (by show ¬G=_;omega),kk.cell hS0.2.2.1 (by show ¬b5=_;omega),Nat.lt_of_lt_of_le hS0.2.2.2.1 kk.size,Nat.lt_of_lt_of_le hS0.2.2.2.2 kk.size⟩
       refine ae 0 hS0 ?_;refine ae 1 hS0 ?_;refine ae 2 hS0 ?_;refine ae 3 hS0 ?_;refine ae 4 hS0 ?_;refine ae 5 hS0 ?_;refine ae 6 hS0 ?_;refine ae 7 hS0 ?_;refine ae 8 hS0 ?_;refine ag 9 ?_;intro K hK;(try simp only[Act.put,sLs])
       go_simp;refine hK _ _ (fun _=>hS9 _ ((Keeps.setCell (S:=fun k=>k=w.heap.size) w8.drew _ _ rfl).trans (Keeps.setCell (S:=fun k=>k=w.heap.size) _ _ _ rfl) (fun _ _ h=>h))) ?_;clear hK K;refine ag 10 ?_;intro K hK;(try simp only[Act.put,sLs])
       go_simp;refine hK _ _ (fun hx=>by cases hx) ?_;clear hK K;refine av (by kernel_rfl) ?_;(try simp only[Act.put,sLs])
       (try simp only[Exit.then])
       go_wp2_with fail;clear hS0 hS9 tv hbr c0 c1 c2 hGl q0 q1 q2 q3 hb5 x0 x1 xf0 xf1 hXl y0 y1 yf0 yf1 hYl g0 g1 hSl;have hB2:=cB HD8.out.f2 (.string ⟨#[]⟩) (.slice none 0 0);have hy3:=hB2.2.heap HD8.out.f3 (by omega);have hB3:=cB hy3 (I 50) (I (at5:Int));have iZ:=hB3.2.heap hB2.1 (by omega);have kd:=(hB2.2.mono (T:=fun k=>k=w.heap.size∨k=w.heap.size+1) (fun _ _ h=> .inl h)).trans hB3.2 (fun _ _ h=> .inr h);have hdr:=(New.refl ((((w8.setCell ⟨w.heap.size,0,none⟩ (.string ⟨#[]⟩)).setCell ⟨w.heap.size,1,none⟩ (.slice none 0 0)).setCell ⟨w.heap.size+1,0,none⟩ (I 50)).setCell ⟨w.heap.size+1,1,none⟩ (I (at5:Int)))).drew;have hnew:=(HD8.out.nw.keeps kd (fun i hi h=>by rcases h with h|h<;>omega)).trans hdr;have iF:=Keeps.heap hdr iZ (fun h=>h);have fI:=Keeps.heap hdr hB3.1 (fun h=>h);clear hB2 hy3 hB3 kd iZ hdr;generalize(((((w8.setCell ⟨w.heap.size,0,none⟩ (.string ⟨#[]⟩)).setCell ⟨w.heap.size,1,none⟩ (.slice none 0 0)).setCell ⟨w.heap.size+1,0,none⟩ (I 50)).setCell ⟨w.heap.size+1,1,none⟩ (I (at5:Int))).drew)=Wz at hnew iF fI ⊢;obtain⟨r0,r1,-,-,-⟩:=aT iF;obtain⟨v0,v1,-,-,-⟩:=aT fI;refine bodyPost_ret (v:= .tuple #[.agg #[.string ⟨#[]⟩,.slice none 0 0],.agg #[I 50,I (at5:Int)]]) (by simp[results,Tryz.results27,go_sem,r0,r1,v0,v1]) rfl ?_;rw[HPO.out];have eC:cz s.data.toList= .error (50,at5):=by rw[HPP.out,HPM.out];simp only;rw[xm.out]
       rw[eC];exact⟨rfl,hnew⟩
    |false=>
     rw[show((⟨#[125]⟩:ByteArray).data.toList)=[125] from rfl,hlk] at hh;have HLS:=Lib.hid (HL.out.step HEE.out hkl hlk);have HM0:Hid (fB wr G=k∧Ao wr G=1):=Lib.hid ⟨rk HD.out.p,uU HD.out.p⟩;have HKL:=Lib.hid hkl;clear hi;go_wp2_with fail;refine hh.mono ?_;rintro e w7 ⟨rfl,n7⟩;have HD7:=Lib.hid (HD.out.new n7);clear hh n7 HD c0 c1 c2 hGl hlk;go_wp2_with fail;have hD7:=HD7.out.new ((New.refl w7).drew);obtain⟨-,p1,-,-,hPl⟩:=aT hD7.sk.blkP;have hri:=wL w7.drew G l a cc k HEE.out hD7.p;have HX7:=Lib.hid hD7;clear hD7;have hS0:(fun w':World=>w'.cell? ⟨Sb,1,none⟩=some (.slice s'.ia s'.items.length s'.ic)∧Sb<w'.heap.size) w7.drew:=⟨p1,hPl⟩
     refine aj (fun w':World=>w'.cell? ⟨Sb,1,none⟩=some (.slice s'.ia s'.items.length s'.ic)∧Sb<w'.heap.size) [4,5,6] (by kernel_rfl) hS0 ?_;refine ae 0 hS0 ?_;refine ae 1 hS0 ?_;refine ag 2 ?_;intro K hK;(try simp only[Act.put,sLs])
     go_simp;obtain⟨it9,CL⟩:∃r,kX l k=r:=⟨_,rfl⟩
     rw[CL] at hri HLS;have hsm:=rT l k HKL.out;rw[CL] at hsm;have hms:2*(l.length-it9.2.1)+(if it9.2.2=true then 1 else 0)<2*(l.length-k)+1:=by
      have hkl:=HKL.out;cases hp:bN l k with
      |bad j=>
       rw[hp] at hsm;have e:it9.2=(j,false):=hsm;have:=rS hkl hp;rw[e];simp;omega
      |good x m=>
       rw[hp] at hsm;have e:it9=(x,(m,true)):=hsm;have:=HEE.out.item hp;rw[e];simp;omega
     have HMS:=Lib.hid hms;have yb:s'.items.length+1<=l.length:=by
      have h1:=HX7.out.it;have h2:s'.items.length=acc.length:=by have:=congrArg List.length h1;simpa using this
      have h3:=(HL.out.1 rfl).2.1;simp only at h3;have:=HKL.out;omega
     clear hsm hms;obtain⟨ix,ist⟩:=it9;refine hri.mono ?_;rintro e w9 ⟨ao,co,rfl,hox,hp9,kk9⟩;have hS1:(fun w':World=>w'.cell? ⟨Sb,1,none⟩=some (.slice s'.ia s'.items.length s'.ic)∧Sb<w'.heap.size) w9:=⟨kk9.cell hS0.1 (by show Sb≠G;omega),Nat.lt_of_lt_of_le hS0.2 kk9.size⟩
     have HOX:=Lib.hid hox;have HPX:=Lib.hid (And.intro hp9 kk9);refine hK _ _ (fun _=>hS1) ?_;clear hK K hri hS0 hox hp9 kk9;simp only at HLS HMS HOX HPX hS1 ⊢;refine ag 3 ?_;intro K hK;(try simp only[Act.put,sLs])
     go_simp;have kl:New w9 (w9.alloc (.cells (itA (ix.mem ao co)) ItT)):=(New.refl w9).alloc _;have bi:ar (w9.alloc (.cells (itA (ix.mem ao co)) ItT)) (some ⟨w9.heap.size,0,none⟩) (br (ix.mem ao co)):=ar.lit w9 _ _;refine hK _ _ (fun _=>⟨New.cell kl hS1.1,Nat.lt_of_lt_of_le hS1.2 kl.size⟩) ?_;clear hK K hS1;generalize(w9.alloc (.cells (itA (ix.mem ao co)) ItT))=VZ at kl bi ⊢;generalize w9.heap.size=Z at bi ⊢;refine ag 4 ?_;intro K hK;refine cS rfl _ _ 50 rfl (G+1) ItT i0 _ 11 136 Tryz.underlying50 hi hz0 hz1 hz2 rfl (by decide) s'.ia s'.items.length s'.ic (s'.items.flatMap br) rfl (((HX7.out.call HPX.out.1 HPX.out.2).new kl).sk.own.io) (some ⟨Z,0,none⟩) 1 1 (br (ix.mem ao co)) rfl rfl bi (lu _) (by unfold maxLen;have:=HX7.out.p.le;omega) (by have:=HX7.out.p.le;omega) ((HX7.out.call HPX.out.1 HPX.out.2).new kl).hM ?_;intro a9 c9 wc ij rM hmv;obtain⟨⟨hv0,hfz,lS⟩,hSn⟩:=HX7.out.add HPX.out.1 HPX.out.2 ix HOX.out kl ij rM;have HDN:=Lib.hid hSn;refine hK _ _ (fun hx=>by cases hx) ?_;clear hK K hSn ij rM hmv bi kl;refine ag 5 ?_;intro K hK;(try simp only[Act.put,sLs])
     go_simp;refine hK _ _ (fun hx=>by cases hx) ?_;clear hK K;refine ag 6 ?_;intro K hK;(try simp only[Act.put,sLs])
     go_simp;refine hK _ _ (fun hx=>by cases hx) ?_;clear hK K;refine av (by kernel_rfl) ?_;(try simp only[Act.put,sLs])
     (try simp only[Exit.then])
     go_wp2_with fail;go_roundw
     case rel=>exact⟨_,_,_,HDN,HNM,HLS,by simp only[List.length_append,List.length_singleton];have:=HKL.out;have:=yb;omega⟩
     case measure=>
      have h1:=HM0.out;have h2:=rk HDN.out.p;have h3:=uU HDN.out.p;have h4:=HMS.out;rw[h1.1,h1.2,h2,h3];exact h4
 ·have hpb:=oQ HAA.out hc;have hc0:(c==0)=false:=by simpa using hc
  have hc1:(c != 0)=true:=by simpa using hc
  obtain⟨b0,b1,x0,x1,hBl⟩:=aT HBB.out.1;obtain⟨d0,d1,y0,y1,hDl⟩:=aT HBB.out.2;have HPB:=Lib.hid hpb;clear hc hpb;go_wp2_with fail;obtain⟨Wf,hWf⟩:∃x,x=w1.alloc (.cells #[I c,I (k:Int)] 33):=⟨_,rfl⟩
  rw[<-hWf] at f0 f1 fl b0 b1 x0 x1 hBl d0 d1 y0 y1 hDl HN1 HBB HSL ⊢;clear hWf;have hS0:(fun w':World=>w'.cell? ⟨w1.heap.size,0,none⟩=some (I c)∧w'.cell? ⟨w1.heap.size,1,none⟩=some (I (k:Int))) Wf.drew:=⟨f0,f1⟩
  refine aj (fun w':World=>w'.cell? ⟨w1.heap.size,0,none⟩=some (I c)∧w'.cell? ⟨w1.heap.size,1,none⟩=some (I (k:Int))) [3] (by kernel_rfl) hS0 ?_;have hS9:∀W',Keeps (fun k=>k=w.heap.size) Wf.drew W'->(fun w':World=>w'.cell? ⟨w1.heap.size,0,none⟩=some (I c)∧w'.cell? ⟨w1.heap.size,1,none⟩=some (I (k:Int))) W':=fun W' kk=>⟨kk.cell hS0.1 (by show ¬w1.heap.size=_;omega),kk.cell hS0.2 (by show ¬w1.heap.size=_;omega)⟩
  refine ae 0 hS0 ?_;refine ae 1 hS0 ?_;refine ag 2 ?_;intro K hK;(try simp only[Act.put,sLs])
  go_simp;refine hK _ _ (fun _=>hS9 _ ((Keeps.setCell (S:=fun k=>k=w.heap.size) Wf.drew _ _ rfl).trans (Keeps.setCell (S:=fun k=>k=w.heap.size) _ _ _ rfl) (fun _ _ h=>h))) ?_;clear hK K;refine ag 3 ?_;intro K hK;(try simp only[Act.put,sLs])
  go_simp;refine hK _ _ (fun hx=>by cases hx) ?_;clear hK K;refine av (by kernel_rfl) ?_;(try simp only[Act.put,sLs])
  (try simp only[Exit.then])
  go_wp2_with fail;clear hS0 hS9 f0 f1 fl b0 b1 x0 x1 hBl d0 d1 y0 y1 hDl;have hB2:=cB HBB.out.1 (.string ⟨#[]⟩) (.slice none 0 0);have hy3:=hB2.2.heap HBB.out.2 (by omega);have hB3:=cB hy3 (I c) (I (k:Int));have iZ:=hB3.2.heap hB2.1 (by omega);have kd:=(hB2.2.mono (T:=fun k=>k=w.heap.size∨k=w.heap.size+1) (fun _ _ h=> .inl h)).trans hB3.2 (fun _ _ h=> .inr h);have hdr:=(New.refl ((((Wf.setCell ⟨w.heap.size,0,none⟩ (.string ⟨#[]⟩)).setCell ⟨w.heap.size,1,none⟩ (.slice none 0 0)).setCell ⟨w.heap.size+1,0,none⟩ (I c)).setCell ⟨w.heap.size+1,1,none⟩ (I (k:Int)))).drew;have hnew:=(HN1.out.keeps kd (fun i hi h=>by rcases h with h|h<;>omega)).trans hdr;have iF:=Keeps.heap hdr iZ (fun h=>h);have fI:=Keeps.heap hdr hB3.1 (fun h=>h);clear hB2 hy3 hB3 kd iZ hdr;generalize(((((Wf.setCell ⟨w.heap.size,0,none⟩ (.string ⟨#[]⟩)).setCell ⟨w.heap.size,1,none⟩ (.slice none 0 0)).setCell ⟨w.heap.size+1,0,none⟩ (I c)).setCell ⟨w.heap.size+1,1,none⟩ (I (k:Int))).drew)=Wz at hnew iF fI ⊢;obtain⟨r0,r1,-,-,-⟩:=aT iF;obtain⟨v0,v1,-,-,-⟩:=aT fI;refine bodyPost_ret (v:= .tuple #[.agg #[.string ⟨#[]⟩,.slice none 0 0],.agg #[I c,I (k:Int)]]) (by simp[results,Tryz.results27,go_sem,r0,r1,v0,v1]) rfl ?_;rw[HPO.out];rw[HPB.out];exact⟨rfl,hnew⟩
end Go.Proofs.YtnedmonlofbahaaGreatDoor
