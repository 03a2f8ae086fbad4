/-
  GsE, GsF, GsG, GsH: what is wanted of them.
-/
import Derived.Test.YtnedmonlofbahaaGreatDoorGwF
namespace Go.Proofs.YtnedmonlofbahaaGreatDoor
open Go Go.RowKit Go.Joins
set_option linter.all false
theorem GrOwn.addAct {w1 w2 w3:World} {B:Nat} {q:Gr} (h:GrOwn w1 B q) (x:GAct) (hx:bc w2 B x.a x.c x.xs) (hd:∀k,blk x.a k->w1.heap.size<=k) (k12:New w1 w2)
  {a':Option Addr} {c':Nat} (ho:w3.ownsRow B 63 3 (.slice a' (q.acts.length+1) c') (q.acts.length+1) (q.acts.flatMap ct++ct x)) (hk:Keeps (blk q.aa) w2 w3) (hm:dS w2 q.aa a'):
  GrOwn w3 B { q with aa:=a',ac:=c',acts:=q.acts++[x] } ∧Keeps (blk q.aa) w1 w3:=by
 have h2:=h.new k12;have cw:∀g,blk q.aa g->∃cur,w2.heap[g]? =some (.cells cur 63 (0,0)):=fun g hg=>aL h2.ao (aV hg)
 have hto:∀e:TypeId,63≠e->∀g,blk q.aa g->∃cur t fr,w2.heap[g]? =some (.cells cur t fr)∧t≠e:=fun e he g hg=>by
  obtain⟨cur,hc⟩:=cw g hg;exact⟨cur,_,_,hc,he⟩
 have hmv:∀k,blk a' k->blk q.aa k∨w2.heap.size<=k:=fun k hb=>cX hm hb
 have tB:=k12.size;refine⟨⟨?_,?_,?_,?_,?_,?_,?_,?_⟩,(Keeps.mono k12 (fun _ _ h=>h.elim)).trans hk (fun _ _ h=>h)⟩
 ·simpa using ho
 ·exact al h2.eo hk (hto _ (by decide))
 ·exact al h2.io hk (hto _ (by decide))
 ·exact al h2.oo hk (hto _ (by decide))
 ·intro y hy;rcases List.mem_append.1 hy with hy|hy
  ·exact al (h2.ax y hy) hk (hto _ (by decide))
  ·rw[List.mem_singleton.1 hy];exact al hx hk (hto _ (by decide))
 ·exact fun y hy=>al (h2.ex y hy) hk (hto _ (by decide))
 ·have hdA:∀y∈q.acts,∀k,blk x.a k->¬blk y.a k:=fun y hy k hk1 hk2=>by
   have h3:=(ai (h.ax y hy) hk2).2;have h4:=hd k hk1;omega
  have hdE:∀y∈q.edges,∀k,blk x.a k->¬blk y.a k:=fun y hy k hk1 hk2=>by
   have h3:=(ai (h.ex y hy) hk2).2;have h4:=hd k hk1;omega
  have ap:=h.ap;rw[List.pairwise_append] at ap;obtain⟨a1,a2,a3⟩:=ap;simp only[List.map_append,List.map_cons,List.map_nil];rw[List.append_assoc,List.pairwise_append];refine⟨a1,?_,?_⟩
  ·rw[List.singleton_append,List.pairwise_cons];refine⟨fun b hb k hk hkb=>?_,a2⟩;obtain⟨y,hy,rfl⟩:=List.mem_map.1 hb;exact hdE y hy k hk hkb
  ·intro b hb c hc;rw[List.singleton_append] at hc;rcases List.mem_cons.1 hc with rfl|hc
   ·intro k hk hkx;obtain⟨y,hy,rfl⟩:=List.mem_map.1 hb;exact hdA y hy k hkx hk
   ·exact a3 b hb c hc
 ·exact h.po
theorem GrOwn.addEdge {w1 w2 w3:World} {B:Nat} {q:Gr} (h:GrOwn w1 B q) (x:GEdge) (hx:bc w2 B x.a x.c x.xs) (hd:∀k,blk x.a k->w1.heap.size<=k) (k12:New w1 w2)
  {a':Option Addr} {c':Nat} (ho:w3.ownsRow B 66 5 (.slice a' (q.edges.length+1) c') (q.edges.length+1) (q.edges.flatMap bS++bS x)) (hk:Keeps (blk q.ea) w2 w3) (hm:dS w2 q.ea a'):
  GrOwn w3 B { q with ea:=a',ec:=c',edges:=q.edges++[x] } ∧Keeps (blk q.ea) w1 w3:=by
 have h2:=h.new k12;have cw:∀g,blk q.ea g->∃cur,w2.heap[g]? =some (.cells cur 66 (0,0)):=fun g hg=>aL h2.eo (aV hg)
 have hto:∀e:TypeId,66≠e->∀g,blk q.ea g->∃cur t fr,w2.heap[g]? =some (.cells cur t fr)∧t≠e:=fun e he g hg=>by
  obtain⟨cur,hc⟩:=cw g hg;exact⟨cur,_,_,hc,he⟩
 have hmv:∀k,blk a' k->blk q.ea k∨w2.heap.size<=k:=fun k hb=>cX hm hb
 have tB:=k12.size;refine⟨⟨?_,?_,?_,?_,?_,?_,?_,?_⟩,(Keeps.mono k12 (fun _ _ h=>h.elim)).trans hk (fun _ _ h=>h)⟩
 ·exact al h2.ao hk (hto _ (by decide))
 ·simpa using ho
 ·exact al h2.io hk (hto _ (by decide))
 ·exact al h2.oo hk (hto _ (by decide))
 ·exact fun y hy=>al (h2.ax y hy) hk (hto _ (by decide))
 ·intro y hy;rcases List.mem_append.1 hy with hy|hy
  ·exact al (h2.ex y hy) hk (hto _ (by decide))
  ·rw[List.mem_singleton.1 hy];exact al hx hk (hto _ (by decide))
 ·have hdA:∀y∈q.acts,∀k,blk x.a k->¬blk y.a k:=fun y hy k hk1 hk2=>by
   have h3:=(ai (h.ax y hy) hk2).2;have h4:=hd k hk1;omega
  have hdE:∀y∈q.edges,∀k,blk x.a k->¬blk y.a k:=fun y hy k hk1 hk2=>by
   have h3:=(ai (h.ex y hy) hk2).2;have h4:=hd k hk1;omega
  simp only[List.map_append,List.map_cons,List.map_nil];rw[<-List.append_assoc,List.pairwise_append];refine⟨h.ap,List.pairwise_singleton _ _,?_⟩;intro b hb c hc;rw[List.mem_singleton.1 hc];intro k hk hkx;rcases List.mem_append.1 hb with hb|hb
  ·obtain⟨y,hy,rfl⟩:=List.mem_map.1 hb;exact hdA y hy k hkx hk
  ·obtain⟨y,hy,rfl⟩:=List.mem_map.1 hb;exact hdE y hy k hkx hk
 ·exact h.po
theorem GrOwn.addIn {w1 w2 w3:World} {B:Nat} {q:Gr} (h:GrOwn w1 B q) (x:GPort) (k12:New w1 w2)
  {a':Option Addr} {c':Nat} (ho:w3.ownsRow B 82 3 (.slice a' (q.ins.length+1) c') (q.ins.length+1) (q.ins.flatMap aH++aH x)) (hk:Keeps (blk q.ia) w2 w3) (hm:dS w2 q.ia a'):
  GrOwn w3 B { q with ia:=a',ic:=c',ins:=q.ins++[x] } ∧Keeps (blk q.ia) w1 w3:=by
 have h2:=h.new k12;have cw:∀g,blk q.ia g->∃cur,w2.heap[g]? =some (.cells cur 82 (0,0)):=fun g hg=>aL h2.io (aV hg)
 have hto:∀e:TypeId,82≠e->∀g,blk q.ia g->∃cur t fr,w2.heap[g]? =some (.cells cur t fr)∧t≠e:=fun e he g hg=>by
  obtain⟨cur,hc⟩:=cw g hg;exact⟨cur,_,_,hc,he⟩
 have hmv:∀k,blk a' k->blk q.ia k∨w2.heap.size<=k:=fun k hb=>cX hm hb
 have tB:=k12.size;refine⟨⟨?_,?_,?_,?_,?_,?_,?_,?_⟩,(Keeps.mono k12 (fun _ _ h=>h.elim)).trans hk (fun _ _ h=>h)⟩
 ·exact al h2.ao hk (hto _ (by decide))
 ·exact al h2.eo hk (hto _ (by decide))
 ·simpa using ho
 ·refine hk.owns h2.oo (fun k hk1 hx=>?_);have hk2:blk q.oa k:=aM hk1;exact h.po k hx hk2
 ·exact fun y hy=>al (h2.ax y hy) hk (hto _ (by decide))
 ·exact fun y hy=>al (h2.ex y hy) hk (hto _ (by decide))
 ·exact h.ap
 ·intro k hk1 hk2;rcases hmv k hk1 with hx|hx
  ·exact h.po k hx hk2
  ·have:=(ai h.oo hk2).2;omega
theorem GrOwn.addOut {w1 w2 w3:World} {B:Nat} {q:Gr} (h:GrOwn w1 B q) (x:GPort) (k12:New w1 w2)
  {a':Option Addr} {c':Nat} (ho:w3.ownsRow B 82 3 (.slice a' (q.outs.length+1) c') (q.outs.length+1) (q.outs.flatMap aH++aH x)) (hk:Keeps (blk q.oa) w2 w3) (hm:dS w2 q.oa a'):
  GrOwn w3 B { q with oa:=a',oc:=c',outs:=q.outs++[x] } ∧Keeps (blk q.oa) w1 w3:=by
 have h2:=h.new k12;have cw:∀g,blk q.oa g->∃cur,w2.heap[g]? =some (.cells cur 82 (0,0)):=fun g hg=>aL h2.oo (aV hg)
 have hto:∀e:TypeId,82≠e->∀g,blk q.oa g->∃cur t fr,w2.heap[g]? =some (.cells cur t fr)∧t≠e:=fun e he g hg=>by
  obtain⟨cur,hc⟩:=cw g hg;exact⟨cur,_,_,hc,he⟩
 have hmv:∀k,blk a' k->blk q.oa k∨w2.heap.size<=k:=fun k hb=>cX hm hb
 have tB:=k12.size;refine⟨⟨?_,?_,?_,?_,?_,?_,?_,?_⟩,(Keeps.mono k12 (fun _ _ h=>h.elim)).trans hk (fun _ _ h=>h)⟩
 ·exact al h2.ao hk (hto _ (by decide))
 ·exact al h2.eo hk (hto _ (by decide))
 ·refine hk.owns h2.io (fun k hk1 hx=>?_);have hk2:blk q.ia k:=aM hk1;exact h.po k hk2 hx
 ·simpa using ho
 ·exact fun y hy=>al (h2.ax y hy) hk (hto _ (by decide))
 ·exact fun y hy=>al (h2.ex y hy) hk (hto _ (by decide))
 ·exact h.ap
 ·intro k hk1 hk2;rcases hmv k hk2 with hx|hx
  ·exact h.po k hk1 hx
  ·have:=(ai h.io hk1).2;omega
def yS:GAct:=⟨⟨#[109,97,114,107]⟩,99,none,0,[]⟩
def tL:GEdge:=⟨-7770777,0,0,0,none,0,[]⟩
def yT:GPort:=⟨⟨#[109,97,114,107]⟩,-7770777,0⟩
abbrev yR:List Value:=Is [-7770777,-7770777,-7770777,-7770777]
def LtB (w:World) (a:Option Addr) (c:Nat) (xs:List Int):Prop:=∃b,a=some ⟨b,0,none⟩∧c=xs.length+4∧w.heap[b]? =some (.cells ((Is xs++yR).toArray) 3 (0,0))
theorem LtB.keeps {S:Nat->Prop} {w w':World} {a:Option Addr} {c:Nat} {xs:List Int} (h:LtB w a c xs) (k:Keeps S w w') (hS:∀g,S g->∃cur t fr,w.heap[g]? =some (.cells cur t fr)∧t≠3):LtB w' a c xs:=by
 obtain⟨b,e1,e2,hb⟩:=h;refine⟨b,e1,e2,k.heap hb (fun hx=>?_)⟩;obtain⟨cur,t,fr,h1,h2⟩:=hS b hx;rw[hb] at h1;cases h1;exact h2 rfl
theorem LtB.new {w w':World} {a:Option Addr} {c:Nat} {xs:List Int} (h:LtB w a c xs) (k:New w w'):LtB w' a c xs:=h.keeps k (fun g hg=>hg.elim)
theorem LtB.own {w:World} {B b:Nat} {xs:List Int} (hb:w.heap[b]? =some (.cells ((Is xs++yR).toArray) 3 (0,0))) (hB:B<=b) (hn:xs.length<=1048576):bc w B (some ⟨b,0,none⟩) (xs.length+4) xs:=by
 refine⟨by simp[Is],.inr ⟨b,xs.length+4,_,rfl,hB,hb,by omega,by unfold maxLen;omega,?_,?_⟩⟩
 ·simp[Is,yR]
 ·have hl:(Is xs).length=xs.length*1:=by simp[Is]
  rw[<-hl];exact List.take_left
abbrev zG4:Array Value:=#[.string ⟨#[]⟩,.slice none 0 0,.slice none 0 0,.slice none 0 0,.slice none 0 0]
structure LSt (w:World) (g:Gr) (P:Nat) (q:Gr) (n1 n2:Nat) (w':World):Prop where
 own:GrOwn w' w.heap.size q
 bl:w'.heap[P]? =some (.cells #[.string g.name,.slice q.aa n1 q.ac,.slice q.ea n2 q.ec,.slice none 0 0,.slice none 0 0] 26 (0,0))
 la:∀x∈q.acts,x=yS∨LtB w' x.a x.c x.xs
 le:∀x∈q.edges,x=tL∨LtB w' x.a x.c x.xs
 nw:New w w'
 hg:w'.heap[w.heap.size]? =some (.cells g.cs 26 (0,0))
 hr:w'.heap[w.heap.size+1]? =some (.cells zG4 26 (0,0))
 hP:w.heap.size+1<P
theorem LSt.new {w w1 w2:World} {g:Gr} {P n1 n2:Nat} {q:Gr} (h:LSt w g P q n1 n2 w1) (k:New w1 w2):LSt w g P q n1 n2 w2:=
 ⟨h.own.new k,Keeps.heap k h.bl (fun h=>h),fun x hx=>(h.la x hx).imp id (fun y=>y.new k),fun x hx=>(h.le x hx).imp id (fun y=>y.new k),h.nw.trans k,Keeps.heap k h.hg (fun h=>h),Keeps.heap k h.hr (fun h=>h),h.hP⟩
theorem LSt.set {w w1:World} {g:Gr} {P n1 n2:Nat} {q q':Gr} (m1 m2:Nat) {v:Value} {i:Nat} (h:LSt w g P q n1 n2 w1) {w3:World} {a:Option Addr} {T:TypeId} (aK:GrOwn w3 w.heap.size q') (k:Keeps (blk a) w1 w3) (ht:∀b,blk a b->∃cur,w1.heap[b]? =some (.cells cur T (0,0))) (hT:T≠26∧T≠3) (hlo:∀b,blk a b->w.heap.size<=b)
  (hc:(#[.string g.name,.slice q.aa n1 q.ac,.slice q.ea n2 q.ec,.slice none 0 0,.slice none 0 0]:Array Value).setIfInBounds i v=#[.string g.name,.slice q'.aa m1 q'.ac,.slice q'.ea m2 q'.ec,.slice none 0 0,.slice none 0 0])
  (hla:∀x∈q'.acts,x∈q.acts∨x=yS∨LtB w3 x.a x.c x.xs) (hle:∀x∈q'.edges,x∈q.edges∨x=tL∨LtB w3 x.a x.c x.xs):LSt w g P q' m1 m2 (w3.setCell ⟨P,i,none⟩ v):=by
 have hP:=h.hP;have hh:∀ {b:Nat} {cs:Array Value} {t:TypeId},w1.heap[b]? =some (.cells cs t (0,0))->t≠T->w3.heap[b]? =some (.cells cs t (0,0)):=fun hb hne=>k.heap hb (fun hx=>by
  obtain⟨cur,hcx⟩:=ht _ hx;rw[hb] at hcx;simp at hcx;exact hne hcx.2)
 have hP3:=hh h.bl (Ne.symm hT.1);have ks:Keeps (fun k=>k=P) w3 (w3.setCell ⟨P,i,none⟩ v):=Keeps.setCell w3 _ _ rfl;have htP:∀g,g=P->∃cur t fr,w3.heap[g]? =some (.cells cur t fr)∧t≠3:=fun g hg=>⟨_,_,_,hg▸hP3,by decide⟩
 have hk3:∀b,blk a b->∃cur t fr,w1.heap[b]? =some (.cells cur t fr)∧t≠3:=fun b hb=>by
  obtain⟨cur,hc⟩:=ht b hb;exact⟨cur,_,_,hc,hT.2⟩
 refine⟨aK.other ks (fun g hg=> .inr ⟨_,_,_,hg▸hP3,by decide⟩),?_,fun x hx=>?_,fun x hx=>?_,?_,ks.heap (hh h.hg (Ne.symm hT.1)) (by omega),ks.heap (hh h.hr (Ne.symm hT.1)) (by omega),hP⟩
 ·rw[block_setCell hP3,hc]
 ·rcases hla x hx with h1|h1|h1
  ·exact(h.la x h1).imp id (fun y=>(y.keeps k hk3).keeps ks htP)
  ·exact .inl h1
  ·exact .inr (h1.keeps ks htP)
 ·rcases hle x hx with h1|h1|h1
  ·exact(h.le x h1).imp id (fun y=>(y.keeps k hk3).keeps ks htP)
  ·exact .inl h1
  ·exact .inr (h1.keeps ks htP)
 ·exact New.keeps (New.keeps h.nw k (fun i hi hb=>by have:=hlo i hb;omega)) ks (fun i hi e=>by omega)
abbrev qL (g:Gr) (a:Option Addr) (c:Nat) (l:List GAct) (b:Option Addr) (d:Nat) (m:List GEdge):Gr:=⟨g.name,a,c,l,b,d,m,none,0,[],none,0,[]⟩
structure Lended (w:World) (B:Nat) (g q:Gr):Prop where
 bare:q.bare=g.bare
 ow:GrOwn w B (qL q q.aa q.ac (q.acts++[yS]) q.ea q.ec (q.edges++[tL]))
 la:∀x∈q.acts,LtB w x.a x.c x.xs
 le:∀x∈q.edges,LtB w x.a x.c x.xs
 io:w.ownsRow B 82 3 (.slice q.ia (q.ins.length+1) q.ic) (q.ins.length+1) ((q.ins++[yT]).flatMap aH)
 oo:w.ownsRow B 82 3 (.slice q.oa (q.outs.length+1) q.oc) (q.outs.length+1) ((q.outs++[yT]).flatMap aH)
theorem LtB.sl {w:World} {a:Option Addr} {c:Nat} {xs:List Int} (h:LtB w a c xs):ar w a (Is xs):=by
 obtain⟨b,rfl,rfl,hb⟩:=h;have:=(ar.block hb).take xs.length;have hl:(Is xs).length=xs.length:=by simp[Is]
 rw[<-hl,List.take_left] at this;exact this
theorem ar.left {w:World} {a:Option Addr} {xs ys:List Value} (h:ar w a (xs++ys)):ar w a xs:=by
 have:=h.take xs.length
 rwa [List.take_left] at this
theorem ar.snoc {α:Type} {f:α->List Value} {w:World} {a:Option Addr} {l:List α} {x:α} (h:ar w a ((l++[x]).flatMap f)):ar w a (l.flatMap f):=by
 rw[List.flatMap_append] at h;exact h.left
theorem Lended.at {w:World} {B:Nat} {g q:Gr} (h:Lended w B g q):GrAt w q:=
 ⟨(ar.of_owns h.ow.ao).snoc,(ar.of_owns h.ow.eo).snoc,(ar.of_owns h.io).snoc,(ar.of_owns h.oo).snoc,fun x hx=>(h.la x hx).sl,fun x hx=>(h.le x hx).sl⟩
theorem Lended.new {w w':World} {B:Nat} {g q:Gr} (h:Lended w B g q) (k:New w w'):Lended w' B g q:=
 ⟨h.bare,h.ow.new k,fun x hx=>(h.la x hx).new k,fun x hx=>(h.le x hx).new k,k.owns h.io,k.owns h.oo⟩
theorem GLen.bare {q g:Gr} (h:GLen g) (e:q.bare=g.bare):GLen q:=by
 obtain⟨h1,h2,h3,h4,h5⟩:=g8 e;refine⟨by rw[nG h2];exact h.a,by rw[nG h3];exact h.e,by rw[h4];exact h.i,by rw[h5];exact h.o,fun x hx=>?_,fun x hx=>?_,by rw[h4];exact h.ix,by rw[h5];exact h.ox,by rw[h1];exact h.n⟩
 ·have hm:x.bare∈g.acts.map GAct.bare:=h2▸List.mem_map_of_mem hx;obtain⟨y,hy,he⟩:=List.mem_map.1 hm;have e1:y.xs=x.xs:=by have:=congrArg GAct.xs he;exact this
  have e2:y.name=x.name:=by have:=congrArg GAct.name he;exact this
  rw[<-e1,<-e2];exact h.ax y hy
 ·have hm:x.bare∈g.edges.map GEdge.bare:=h3▸List.mem_map_of_mem hx;obtain⟨y,hy,he⟩:=List.mem_map.1 hm;have e1:y.xs=x.xs:=by have:=congrArg GEdge.xs he;exact this
  rw[<-e1];exact h.ex y hy
theorem GFew.bare {q g:Gr} (h:GFew g) (e:q.bare=g.bare):GFew q:=by
 obtain⟨h1,h2,h3,h4,h5⟩:=g8 e;refine⟨by rw[nG h2,nG h3,h4,h5];exact h.n,fun x hx=>?_,fun x hx=>?_⟩
 ·have hm:x.bare∈g.acts.map GAct.bare:=h2▸List.mem_map_of_mem hx;obtain⟨y,hy,he⟩:=List.mem_map.1 hm;have e1:y.xs=x.xs:=by have:=congrArg GAct.xs he;exact this
  rw[<-e1];exact h.ax y hy
 ·have hm:x.bare∈g.edges.map GEdge.bare:=h3▸List.mem_map_of_mem hx;obtain⟨y,hy,he⟩:=List.mem_map.1 hm;have e1:y.xs=x.xs:=by have:=congrArg GEdge.xs he;exact this
  rw[<-e1];exact h.ex y hy
end Go.Proofs.YtnedmonlofbahaaGreatDoor
