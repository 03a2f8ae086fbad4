/-
  ShapeF, GsE, GsF, GsG, GsH, ReadGr: what is wanted of them.
-/
import Derived.Test.YtnedmonlofbahaaGreatDoorGwI
import Derived.Test.YtnedmonlofbahaaGreatDoorDbl
namespace Go.Proofs.YtnedmonlofbahaaGreatDoor
open Go Go.RowKit
set_option linter.all false
theorem oP (xs:List Int):∀u∈Is xs,u.oneCell'=true:=ints_oneCell .i64 xs
def v7 (w:World) (xs:List Int) (e:Ending) (w':World):Prop:=
 ∃g,e= .returned (.slice (some ⟨g,0,none⟩) xs.length (xs.length+4))∧w.heap.size<=g∧w'.heap[g]? =some (.cells ((Is xs++Is [-7770777,-7770777,-7770777,-7770777]).toArray) 3 (0,0))∧New w w'
set_option maxRecDepth 100000 in
set_option maxHeartbeats 1000000 in
theorem ng (ao:Option Addr) (c:Nat) (xs:List Int) (w:World) (hx:am w ao (Is xs)) (hn:xs.length*8<=140737488351232):
  Calls Tryz.prog 38 #[.slice ao xs.length c] w (v7 w xs):=by
 obtain⟨i0,hi,hz0,hz1,hz2⟩:=info_parts Tryz.infoInt;go_enter Tryz.func38,Tryz.ntmps38;go_wp2_with (at_make;refine wpList_make_own _ rfl _ _ 61 rfl w.heap.size 3 i0 (.int .i64 0) 1 Tryz.underlying61 hi hz0 hz1 _ _ _ (xs.length+4) rfl rfl ?b0 ?b1 ?b2 ?b3 ?b4);case b0=>simp
 case b1=>rw[hz2];omega
 case b2=>unfold maxLen;omega
 case b3=>simp
 case b4=>
  intro w1 hown hg;have hnew:New w w1:=Keeps.grown hg (fun k h=>by cases h);clear hg;go_wp2_with ((at_builtin;refine jZ rfl _ _ 61 rfl w.heap.size 3 i0 1 Tryz.underlying61 hi hz1 (by decide) _ 0 (xs.length+4) [] rfl hown ao xs.length c (Is xs) rfl ?c0 ?c1 ?c2 ?c3 ?c5));case c0=>simp
  case c1=>exact hx.new hnew
  case c2=>exact oP _
  case c3=>omega
  case c5=>
   intro w2 hown2 hk2;have hnew2:New w w2:=hnew.keeps hk2 (fun i hi ⟨a,ha,hb⟩=>by simp at ha;subst ha;simp at hb;omega);try simp only[Nat.zero_add,List.nil_append] at hown2
   clear hown hnew hk2;go_wp2
   go_loopw [3,4] (fun v i wr=>∃k:Nat,k<=4∧i= .int .i64 k∧v= .slice (some ⟨w.heap.size,0,none⟩) (xs.length+k) (xs.length+4)∧wr.ownsRow w.heap.size 3 1 (.slice (some ⟨w.heap.size,0,none⟩) (xs.length+k) (xs.length+4)) (xs.length+k) (Is xs++List.replicate k (I (-7770777)))∧New w wr) (fun _ i _=>4-(intOf i).toNat)
   case atStart=>exact⟨0,by omega,rfl,rfl,by simpa using hown2,hnew2⟩
   case round=>
    clear hown2 hnew2;obtain⟨k,hk,rfl,rfl,hown,hnew⟩:=hrel;by_cases hk4:k<4
    ·have hs:=hnew.size;go_wp2_with ((at_builtin;refine jZ rfl _ _ 61 rfl w.heap.size 3 i0 1 Tryz.underlying61 hi hz1 (by decide) _ (xs.length+k) (xs.length+4) _ rfl ((Keeps.alloc (S:=fun _=>False) _ _).owns hown (fun _ _ h=>h)) _ 1 1 [I (-7770777)] rfl rfl ?d0 ?d1 ?d2 ?d3));case d0=>exact am.lit _ _ _
     case d1=>intro u hu;simp at hu;subst hu;rfl
     case d2=>omega
     case d3=>
      intro w3 hown3 hk3;have hnew3:New w w3:=(hnew.alloc _).keeps hk3 (fun i hi ⟨a,ha,hb⟩=>by simp at ha;subst ha;simp at hb;omega);clear hown hk3;go_wp2
      go_roundw
      case rel=>exact⟨k+1,by omega,by go_num,rfl,by simpa[List.replicate_succ',Nat.add_assoc] using hown3,hnew3⟩
      case measure=>simp[intOf];omega
    ·obtain rfl:k=4:=by omega
     have hfull:=ms hown;clear hown;go_wp2
     go_ret
     exact⟨_,by simp,Nat.le_refl _,by rw[hfull];rfl,hnew⟩
set_option maxRecDepth 100000 in
set_option maxHeartbeats 1000000 in
theorem m9 (g:Nat) (ao:Option Addr) (c:Nat) (xs:List Int) (w:World) (hg:w.heap[g]? =some (.cells ((Is xs++Is [-7770777,-7770777,-7770777,-7770777]).toArray) 3 (0,0))) (hx:am w ao (Is xs)) (hn:xs.length*8<=140737488351232):
  Calls Tryz.prog 44 #[.slice (some ⟨g,0,none⟩) xs.length (xs.length+4),.slice ao xs.length c] w fun e w'=>e= .returned (.bool true)∧∃n,w'=w.drewN n:=by
 have hown:am w (some ⟨g,0,none⟩) (Is xs):=by
  have:=(am.block hg).take xs.length;simpa using this
 have hall:∀k,xs.length<=k->k<xs.length+4->w.cell? ⟨g,k,none⟩=some (I (-7770777)):=by
  intro k h1 h2;rw[cell_of_row w g k _ _ _ hg];obtain⟨j,rfl⟩:∃j,k=xs.length+j:=⟨k-xs.length,by omega⟩
  have hj:j=0∨j=1∨j=2∨j=3:=by omega
  rcases hj with rfl|rfl|rfl|rfl<;>simp[List.getElem?_append]
 have HA:=Lib.hid hall;clear hall;go_enter Tryz.func44,Tryz.ntmps44;go_wp2_with (go_at_call 30;refine(js _ _ _ xs xs _ _ hown hx (by omega)).mono ?_;rw[decide_eq_true rfl];rintro e w' ⟨rfl,n,rfl⟩);go_loopw [6] (fun i wr=>∃k:Nat,xs.length<=k∧k<=xs.length+4∧i= .int .i64 k∧∃n,wr=w.drewN n) (fun i _=>xs.length+4-(intOf i).toNat)
 case atStart=>exact⟨xs.length,by omega,by omega,rfl,_,rfl⟩
 case round=>
  obtain⟨k,hk0,hk,rfl,n,rfl⟩:=hrel;by_cases hk4:k<xs.length+4
  ·have hc:=HA.out k hk0 hk4;go_wp2
   go_roundw
   case rel=>exact⟨k+1,by omega,by omega,by go_num,_,rfl⟩
   case measure=>simp[intOf];omega
  ·go_wp2
   go_ret
   exact⟨rfl,_,rfl⟩
end Go.Proofs.YtnedmonlofbahaaGreatDoor
namespace Go.Proofs.YtnedmonlofbahaaGreatDoor
open Go Go.RowKit Go.Joins
set_option linter.all false
theorem GrOwn.addAct {w1 w2 w3:World} {B:Nat} {q:Gr} (h:GrOwn w1 B q) (x:GAct) (hx:bp w2 B x.a x.c x.xs) (hd:∀k,blk x.a k->w1.heap.size<=k) (k12:New w1 w2)
  {a':Option Addr} {c':Nat} (ho:w3.ownsRow B 63 3 (.slice a' (q.acts.length+1) c') (q.acts.length+1) (q.acts.flatMap bs++bs x)) (hk:Keeps (blk q.aa) w2 w3) (hm:eK w2 q.aa a'):
  GrOwn w3 B { q with aa:=a',ac:=c',acts:=q.acts++[x] } ∧Keeps (blk q.aa) w1 w3:=by
 have h2:=h.new k12;have htag:∀g,blk q.aa g->∃cur,w2.heap[g]? =some (.cells cur 63 (0,0)):=fun g hg=>be h2.ao (bu hg)
 have hto:∀e:TypeId,63≠e->∀g,blk q.aa g->∃cur t fr,w2.heap[g]? =some (.cells cur t fr)∧t≠e:=fun e he g hg=>by
  obtain⟨cur,hc⟩:=htag g hg;exact⟨cur,_,_,hc,he⟩
 have hmv:∀k,blk a' k->blk q.aa k∨w2.heap.size<=k:=fun k hb=>dq hm hb
 have hs12:=k12.size;refine⟨⟨?_,?_,?_,?_,?_,?_,?_,?_⟩,(Keeps.mono k12 (fun _ _ h=>h.elim)).trans hk (fun _ _ h=>h)⟩
 ·simpa using ho
 ·exact au h2.eo hk (hto _ (by decide))
 ·exact au h2.io hk (hto _ (by decide))
 ·exact au h2.oo hk (hto _ (by decide))
 ·intro y hy;rcases List.mem_append.1 hy with hy|hy
  ·exact au (h2.ax y hy) hk (hto _ (by decide))
  ·rw[List.mem_singleton.1 hy];exact au hx hk (hto _ (by decide))
 ·exact fun y hy=>au (h2.ex y hy) hk (hto _ (by decide))
 ·have hdA:∀y∈q.acts,∀k,blk x.a k->¬blk y.a k:=fun y hy k hk1 hk2=>by
   have h3:=(an (h.ax y hy) hk2).2;have h4:=hd k hk1;omega
  have hdE:∀y∈q.edges,∀k,blk x.a k->¬blk y.a k:=fun y hy k hk1 hk2=>by
   have h3:=(an (h.ex y hy) hk2).2;have h4:=hd k hk1;omega
  have ap:=h.ap;rw[List.pairwise_append] at ap;obtain⟨a1,a2,a3⟩:=ap;simp only[List.map_append,List.map_cons,List.map_nil];rw[List.append_assoc,List.pairwise_append];refine⟨a1,?_,?_⟩
  ·rw[List.singleton_append,List.pairwise_cons];refine⟨fun b hb k hk hkb=>?_,a2⟩;obtain⟨y,hy,rfl⟩:=List.mem_map.1 hb;exact hdE y hy k hk hkb
  ·intro b hb c hc;rw[List.singleton_append] at hc;rcases List.mem_cons.1 hc with rfl|hc
   ·intro k hk hkx;obtain⟨y,hy,rfl⟩:=List.mem_map.1 hb;exact hdA y hy k hkx hk
   ·exact a3 b hb c hc
 ·exact h.po
theorem GrOwn.addEdge {w1 w2 w3:World} {B:Nat} {q:Gr} (h:GrOwn w1 B q) (x:GEdge) (hx:bp w2 B x.a x.c x.xs) (hd:∀k,blk x.a k->w1.heap.size<=k) (k12:New w1 w2)
  {a':Option Addr} {c':Nat} (ho:w3.ownsRow B 66 5 (.slice a' (q.edges.length+1) c') (q.edges.length+1) (q.edges.flatMap aZ++aZ x)) (hk:Keeps (blk q.ea) w2 w3) (hm:eK w2 q.ea a'):
  GrOwn w3 B { q with ea:=a',ec:=c',edges:=q.edges++[x] } ∧Keeps (blk q.ea) w1 w3:=by
 have h2:=h.new k12;have htag:∀g,blk q.ea g->∃cur,w2.heap[g]? =some (.cells cur 66 (0,0)):=fun g hg=>be h2.eo (bu hg)
 have hto:∀e:TypeId,66≠e->∀g,blk q.ea g->∃cur t fr,w2.heap[g]? =some (.cells cur t fr)∧t≠e:=fun e he g hg=>by
  obtain⟨cur,hc⟩:=htag g hg;exact⟨cur,_,_,hc,he⟩
 have hmv:∀k,blk a' k->blk q.ea k∨w2.heap.size<=k:=fun k hb=>dq hm hb
 have hs12:=k12.size;refine⟨⟨?_,?_,?_,?_,?_,?_,?_,?_⟩,(Keeps.mono k12 (fun _ _ h=>h.elim)).trans hk (fun _ _ h=>h)⟩
 ·exact au h2.ao hk (hto _ (by decide))
 ·simpa using ho
 ·exact au h2.io hk (hto _ (by decide))
 ·exact au h2.oo hk (hto _ (by decide))
 ·exact fun y hy=>au (h2.ax y hy) hk (hto _ (by decide))
 ·intro y hy;rcases List.mem_append.1 hy with hy|hy
  ·exact au (h2.ex y hy) hk (hto _ (by decide))
  ·rw[List.mem_singleton.1 hy];exact au hx hk (hto _ (by decide))
 ·have hdA:∀y∈q.acts,∀k,blk x.a k->¬blk y.a k:=fun y hy k hk1 hk2=>by
   have h3:=(an (h.ax y hy) hk2).2;have h4:=hd k hk1;omega
  have hdE:∀y∈q.edges,∀k,blk x.a k->¬blk y.a k:=fun y hy k hk1 hk2=>by
   have h3:=(an (h.ex y hy) hk2).2;have h4:=hd k hk1;omega
  simp only[List.map_append,List.map_cons,List.map_nil];rw[<-List.append_assoc,List.pairwise_append];refine⟨h.ap,List.pairwise_singleton _ _,?_⟩;intro b hb c hc;rw[List.mem_singleton.1 hc];intro k hk hkx;rcases List.mem_append.1 hb with hb|hb
  ·obtain⟨y,hy,rfl⟩:=List.mem_map.1 hb;exact hdA y hy k hkx hk
  ·obtain⟨y,hy,rfl⟩:=List.mem_map.1 hb;exact hdE y hy k hkx hk
 ·exact h.po
theorem GrOwn.addIn {w1 w2 w3:World} {B:Nat} {q:Gr} (h:GrOwn w1 B q) (x:GPort) (k12:New w1 w2)
  {a':Option Addr} {c':Nat} (ho:w3.ownsRow B 82 3 (.slice a' (q.ins.length+1) c') (q.ins.length+1) (q.ins.flatMap aJ++aJ x)) (hk:Keeps (blk q.ia) w2 w3) (hm:eK w2 q.ia a'):
  GrOwn w3 B { q with ia:=a',ic:=c',ins:=q.ins++[x] } ∧Keeps (blk q.ia) w1 w3:=by
 have h2:=h.new k12;have htag:∀g,blk q.ia g->∃cur,w2.heap[g]? =some (.cells cur 82 (0,0)):=fun g hg=>be h2.io (bu hg)
 have hto:∀e:TypeId,82≠e->∀g,blk q.ia g->∃cur t fr,w2.heap[g]? =some (.cells cur t fr)∧t≠e:=fun e he g hg=>by
  obtain⟨cur,hc⟩:=htag g hg;exact⟨cur,_,_,hc,he⟩
 have hmv:∀k,blk a' k->blk q.ia k∨w2.heap.size<=k:=fun k hb=>dq hm hb
 have hs12:=k12.size;refine⟨⟨?_,?_,?_,?_,?_,?_,?_,?_⟩,(Keeps.mono k12 (fun _ _ h=>h.elim)).trans hk (fun _ _ h=>h)⟩
 ·exact au h2.ao hk (hto _ (by decide))
 ·exact au h2.eo hk (hto _ (by decide))
 ·simpa using ho
 ·refine hk.owns h2.oo (fun k hk1 hx=>?_);have hk2:blk q.oa k:=bH hk1;exact h.po k hx hk2
 ·exact fun y hy=>au (h2.ax y hy) hk (hto _ (by decide))
 ·exact fun y hy=>au (h2.ex y hy) hk (hto _ (by decide))
 ·exact h.ap
 ·intro k hk1 hk2;rcases hmv k hk1 with hx|hx
  ·exact h.po k hx hk2
  ·have:=(an h.oo hk2).2;omega
theorem GrOwn.addOut {w1 w2 w3:World} {B:Nat} {q:Gr} (h:GrOwn w1 B q) (x:GPort) (k12:New w1 w2)
  {a':Option Addr} {c':Nat} (ho:w3.ownsRow B 82 3 (.slice a' (q.outs.length+1) c') (q.outs.length+1) (q.outs.flatMap aJ++aJ x)) (hk:Keeps (blk q.oa) w2 w3) (hm:eK w2 q.oa a'):
  GrOwn w3 B { q with oa:=a',oc:=c',outs:=q.outs++[x] } ∧Keeps (blk q.oa) w1 w3:=by
 have h2:=h.new k12;have htag:∀g,blk q.oa g->∃cur,w2.heap[g]? =some (.cells cur 82 (0,0)):=fun g hg=>be h2.oo (bu hg)
 have hto:∀e:TypeId,82≠e->∀g,blk q.oa g->∃cur t fr,w2.heap[g]? =some (.cells cur t fr)∧t≠e:=fun e he g hg=>by
  obtain⟨cur,hc⟩:=htag g hg;exact⟨cur,_,_,hc,he⟩
 have hmv:∀k,blk a' k->blk q.oa k∨w2.heap.size<=k:=fun k hb=>dq hm hb
 have hs12:=k12.size;refine⟨⟨?_,?_,?_,?_,?_,?_,?_,?_⟩,(Keeps.mono k12 (fun _ _ h=>h.elim)).trans hk (fun _ _ h=>h)⟩
 ·exact au h2.ao hk (hto _ (by decide))
 ·exact au h2.eo hk (hto _ (by decide))
 ·refine hk.owns h2.io (fun k hk1 hx=>?_);have hk2:blk q.ia k:=bH hk1;exact h.po k hk2 hx
 ·simpa using ho
 ·exact fun y hy=>au (h2.ax y hy) hk (hto _ (by decide))
 ·exact fun y hy=>au (h2.ex y hy) hk (hto _ (by decide))
 ·exact h.ap
 ·intro k hk1 hk2;rcases hmv k hk2 with hx|hx
  ·exact h.po k hk1 hx
  ·have:=(an h.io hk1).2;omega
def gx:GAct:=⟨⟨#[109,97,114,107]⟩,99,none,0,[]⟩
def gU:GEdge:=⟨-7770777,0,0,0,none,0,[]⟩
def iY:GPort:=⟨⟨#[109,97,114,107]⟩,-7770777,0⟩
set_option maxRecDepth 100000 in
set_option maxHeartbeats 4000000 in
theorem iO (w:World) (a:Option Addr) (c:Nat) (l:List GPort) (hx:am w a (l.flatMap aJ)) (hn:l.length<=1048576):
  Calls Tryz.prog 39 #[.slice a l.length c] w fun e w'=>∃a' c',e= .returned (.slice a' l.length c')∧w'.ownsRow w.heap.size 82 3 (.slice a' (l.length+1) c') (l.length+1) ((l++[iY]).flatMap aJ)∧New w w':=by
 obtain⟨i0,hi,hz0,hz1,hz2⟩:=info_parts m7;have hfl:=jj aJ 3 (fun _=>rfl) l;have HFL:=Lib.hid hfl;clear hfl;have hone:∀u∈l.flatMap aJ,u.oneCell'=true:=by
  intro u hu;obtain⟨y,_,hy⟩:=List.mem_flatMap.1 hu;exact jo y u hy
 have HONE:=Lib.hid hone;clear hone;have hnil:w.ownsRow w.heap.size 82 3 (.slice none 0 0) 0 []:=World.ownsRow_nil _ _ _ _;go_enter Tryz.func39,Tryz.ntmps39;go_wp2_with (at_builtin;refine bB rfl _ _ 24 rfl w.heap.size 82 i0 _ 3 32 Tryz.underlying24 hi hz0 hz1 hz2 rfl (by decide) none 0 0 [] rfl hnil a l.length c (l.flatMap aJ) rfl HFL.out hx HONE.out (by unfold maxLen;omega) (by omega) (Nat.le_refl _) ?_);intro a1 c1 w1 hown hk hm _;have k1:New w w1:=Keeps.mono hk (fun k _ hb=>by obtain⟨x,hx,_⟩:=hb;cases hx);have kz:New w1 (w1.alloc (.cells #[.string ⟨#[109,97,114,107]⟩,I (-7770777),I 0] 82)):=(New.refl w1).alloc _;have hlit:am (w1.alloc (.cells #[.string ⟨#[109,97,114,107]⟩,I (-7770777),I 0] 82)) (some ⟨w1.heap.size,0,none⟩) (aJ iY):=am.lit w1 _ _;have hoz:=kz.owns hown;have hbz:w.heap.size<=(w1.alloc (.cells #[.string ⟨#[109,97,114,107]⟩,I (-7770777),I 0] 82)).heap.size:=Nat.le_trans k1.size kz.size;clear hk hm;go_wp2_with (at_builtin;refine bB rfl _ _ 24 rfl w.heap.size 82 i0 _ 3 32 Tryz.underlying24 hi hz0 hz1 hz2 rfl (by decide) a1 l.length c1 (l.flatMap aJ) rfl hoz (some ⟨w1.heap.size,0,none⟩) 1 1 (aJ iY) rfl rfl hlit (jo _) (by unfold maxLen;omega) (by omega) hbz ?_);intro a2 c2 w2 hown2 hk2 hm2 _;have hcap:l.length+1<=c2:=by
  rcases hown2.2 with⟨h0,-⟩|⟨g,cap,cur,h0,hb,hg,hnc,-⟩
  ·simp at h0
  ·simp only[Value.slice.injEq] at h0;obtain⟨-,-,rfl⟩:=h0;exact hnc
 have hcI:(l.length:Int)<=(c2:Int):=by omega
 have k2:New w w2:=(k1.trans kz).keeps hk2 (fun i hi hb=>by
  obtain⟨y,hy,rfl⟩:=hb;have:=(an hown ⟨y,hy,rfl⟩).1;omega)
 clear hk2 hm2 hoz hlit kz hown;go_wp2_with fail;go_ret
 exact⟨a2,c2,rfl,by simpa using hown2,k2⟩
abbrev zG4:Array Value:=#[.string ⟨#[]⟩,.slice none 0 0,.slice none 0 0,.slice none 0 0,.slice none 0 0]
structure LSt (w:World) (g:Gr) (P:Nat) (q:Gr) (n1 n2:Nat) (w':World):Prop where
 own:GrOwn w' w.heap.size q
 bl:w'.heap[P]? =some (.cells #[.string g.name,.slice q.aa n1 q.ac,.slice q.ea n2 q.ec,.slice none 0 0,.slice none 0 0] 26 (0,0))
 la:∀x∈q.acts,x=gx∨LtB w' x.a x.c x.xs
 le:∀x∈q.edges,x=gU∨LtB w' x.a x.c x.xs
 nw:New w w'
 hg:w'.heap[w.heap.size]? =some (.cells g.cs 26 (0,0))
 hr:w'.heap[w.heap.size+1]? =some (.cells zG4 26 (0,0))
 hP:w.heap.size+1<P
theorem LSt.new {w w1 w2:World} {g:Gr} {P n1 n2:Nat} {q:Gr} (h:LSt w g P q n1 n2 w1) (k:New w1 w2):LSt w g P q n1 n2 w2:=
 ⟨h.own.new k,Keeps.heap k h.bl (fun h=>h),fun x hx=>(h.la x hx).imp id (fun y=>y.new k),fun x hx=>(h.le x hx).imp id (fun y=>y.new k),h.nw.trans k,Keeps.heap k h.hg (fun h=>h),Keeps.heap k h.hr (fun h=>h),h.hP⟩
theorem LSt.set {w w1:World} {g:Gr} {P n1 n2:Nat} {q q':Gr} (m1 m2:Nat) {v:Value} {i:Nat} (h:LSt w g P q n1 n2 w1) {w3:World} {a:Option Addr} {T:TypeId} (hown:GrOwn w3 w.heap.size q') (k:Keeps (blk a) w1 w3) (ht:∀b,blk a b->∃cur,w1.heap[b]? =some (.cells cur T (0,0))) (hT:T≠26∧T≠3) (hlo:∀b,blk a b->w.heap.size<=b)
  (hc:(#[.string g.name,.slice q.aa n1 q.ac,.slice q.ea n2 q.ec,.slice none 0 0,.slice none 0 0]:Array Value).setIfInBounds i v=#[.string g.name,.slice q'.aa m1 q'.ac,.slice q'.ea m2 q'.ec,.slice none 0 0,.slice none 0 0])
  (hla:∀x∈q'.acts,x∈q.acts∨x=gx∨LtB w3 x.a x.c x.xs) (hle:∀x∈q'.edges,x∈q.edges∨x=gU∨LtB w3 x.a x.c x.xs):LSt w g P q' m1 m2 (w3.setCell ⟨P,i,none⟩ v):=by
 have hP:=h.hP;have hh:∀ {b:Nat} {cs:Array Value} {t:TypeId},w1.heap[b]? =some (.cells cs t (0,0))->t≠T->w3.heap[b]? =some (.cells cs t (0,0)):=fun hb hne=>k.heap hb (fun hx=>by
  obtain⟨cur,hcx⟩:=ht _ hx;rw[hb] at hcx;simp at hcx;exact hne hcx.2)
 have hP3:=hh h.bl (Ne.symm hT.1);have ks:Keeps (fun k=>k=P) w3 (w3.setCell ⟨P,i,none⟩ v):=Keeps.setCell w3 _ _ rfl;have htP:∀g,g=P->∃cur t fr,w3.heap[g]? =some (.cells cur t fr)∧t≠3:=fun g hg=>⟨_,_,_,hg▸hP3,by decide⟩
 have hk3:∀b,blk a b->∃cur t fr,w1.heap[b]? =some (.cells cur t fr)∧t≠3:=fun b hb=>by
  obtain⟨cur,hc⟩:=ht b hb;exact⟨cur,_,_,hc,hT.2⟩
 refine⟨hown.other ks (fun g hg=> .inr ⟨_,_,_,hg▸hP3,by decide⟩),?_,fun x hx=>?_,fun x hx=>?_,?_,ks.heap (hh h.hg (Ne.symm hT.1)) (by omega),ks.heap (hh h.hr (Ne.symm hT.1)) (by omega),hP⟩
 ·rw[block_setCell hP3,hc]
 ·rcases hla x hx with h1|h1|h1
  ·exact(h.la x h1).imp id (fun y=>(y.keeps k hk3).keeps ks htP)
  ·exact .inl h1
  ·exact .inr (h1.keeps ks htP)
 ·rcases hle x hx with h1|h1|h1
  ·exact(h.le x h1).imp id (fun y=>(y.keeps k hk3).keeps ks htP)
  ·exact .inl h1
  ·exact .inr (h1.keeps ks htP)
 ·exact New.keeps (New.keeps h.nw k (fun i hi hb=>by have:=hlo i hb;omega)) ks (fun i hi e=>by omega)
abbrev qL (g:Gr) (a:Option Addr) (c:Nat) (l:List GAct) (b:Option Addr) (d:Nat) (m:List GEdge):Gr:=⟨g.name,a,c,l,b,d,m,none,0,[],none,0,[]⟩
def py (w:World) (g:Gr) (e:Ending) (w':World):Prop:=∃(a:Option Addr) (c:Nat) (l:List GAct) (b:Option Addr) (d:Nat) (m:List GEdge) (ia:Option Addr) (ic:Nat) (oa:Option Addr) (oc:Nat),e= .returned (.agg #[.string g.name,.slice a g.acts.length c,.slice b g.edges.length d,.slice ia g.ins.length ic,.slice oa g.outs.length oc])∧
   GrOwn w' w.heap.size (qL g a c (l++[gx]) b d (m++[gU]))∧l.map GAct.bare=g.acts.map GAct.bare∧m.map GEdge.bare=g.edges.map GEdge.bare∧(∀x∈l,LtB w' x.a x.c x.xs)∧(∀x∈m,LtB w' x.a x.c x.xs)∧
   w'.ownsRow w.heap.size 82 3 (.slice ia (g.ins.length+1) ic) (g.ins.length+1) ((g.ins++[iY]).flatMap aJ)∧w'.ownsRow w.heap.size 82 3 (.slice oa (g.outs.length+1) oc) (g.outs.length+1) ((g.outs++[iY]).flatMap aJ)∧New w w'
set_option maxRecDepth 100000 in
set_option maxHeartbeats 32000000 in
theorem lr (w:World) (g:Gr) (hg:GrAt w g) (hf:GFew g):
  Calls Tryz.prog 17 #[g.v] w (py w g):=by
 have HG:=Lib.hid hg;have hfn:=hf.n;have FAX:=Lib.hid hf.ax;have FEX:=Lib.hid hf.ex;clear hg hf;obtain⟨it1,hit1,ha0,ha1,ha2⟩:=info_parts pD;obtain⟨it2,hit2,he0,he1,he2⟩:=info_parts m5;obtain⟨aA,hA⟩:∃a,g.aa=a:=⟨_,rfl⟩
 obtain⟨aE,hE⟩:∃a,g.ea=a:=⟨_,rfl⟩
 simp only[Gr.v,Gr.cs];rw[hA,hE];have HA:=Lib.hid hA;have HE:=Lib.hid hE;clear hA hE;obtain⟨post,hpost⟩:∃post:Ending->World->Prop,py w g=post:=⟨_,rfl⟩
 rw[hpost];have HP:=Lib.hid hpost;clear hpost;go_enter Tryz.func17,Tryz.ntmps17;go_wp2_with fail;have na:New w (w.alloc (.cells #[.string g.name,.slice aA g.acts.length g.ac,.slice aE g.edges.length g.ec,.slice g.ia g.ins.length g.ic,.slice g.oa g.outs.length g.oc] 26)):=(New.refl w).alloc _;have ha:(w.alloc (.cells #[.string g.name,.slice aA g.acts.length g.ac,.slice aE g.edges.length g.ec,.slice g.ia g.ins.length g.ic,.slice g.oa g.outs.length g.oc] 26)).heap[w.heap.size]? =some (.cells #[.string g.name,.slice aA g.acts.length g.ac,.slice aE g.edges.length g.ec,.slice g.ia g.ins.length g.ic,.slice g.oa g.outs.length g.oc] 26 (0,0)):=heap_alloc_new w _;have sa:(w.alloc (.cells #[.string g.name,.slice aA g.acts.length g.ac,.slice aE g.edges.length g.ec,.slice g.ia g.ins.length g.ic,.slice g.oa g.outs.length g.oc] 26)).heap.size=w.heap.size+1:=ay _ _;generalize(w.alloc (.cells #[.string g.name,.slice aA g.acts.length g.ac,.slice aE g.edges.length g.ec,.slice g.ia g.ins.length g.ic,.slice g.oa g.outs.length g.oc] 26))=wa at na ha sa ⊢;have nb:New wa (wa.alloc (.cells #[.string ⟨#[]⟩,.slice none 0 0,.slice none 0 0,.slice none 0 0,.slice none 0 0] 26)):=(New.refl wa).alloc _;have hb:(wa.alloc (.cells #[.string ⟨#[]⟩,.slice none 0 0,.slice none 0 0,.slice none 0 0,.slice none 0 0] 26)).heap[wa.heap.size]? =some (.cells #[.string ⟨#[]⟩,.slice none 0 0,.slice none 0 0,.slice none 0 0,.slice none 0 0] 26 (0,0)):=heap_alloc_new wa _;rw[sa] at hb;have sb:(wa.alloc (.cells #[.string ⟨#[]⟩,.slice none 0 0,.slice none 0 0,.slice none 0 0,.slice none 0 0] 26)).heap.size=w.heap.size+1+1:=by rw[ay,sa]
 generalize(wa.alloc (.cells #[.string ⟨#[]⟩,.slice none 0 0,.slice none 0 0,.slice none 0 0,.slice none 0 0] 26))=wb at nb hb sb ⊢;have nc:New wb (wb.alloc (.cells #[.string g.name,.slice none 0 0,.slice none 0 0,.slice none 0 0,.slice none 0 0] 26)):=(New.refl wb).alloc _;have hc:(wb.alloc (.cells #[.string g.name,.slice none 0 0,.slice none 0 0,.slice none 0 0,.slice none 0 0] 26)).heap[wb.heap.size]? =some (.cells #[.string g.name,.slice none 0 0,.slice none 0 0,.slice none 0 0,.slice none 0 0] 26 (0,0)):=heap_alloc_new wb _;have hPlo:w.heap.size+1<wb.heap.size:=by omega
 generalize(wb.alloc (.cells #[.string g.name,.slice none 0 0,.slice none 0 0,.slice none 0 0,.slice none 0 0] 26))=wc at nc hc ⊢;rw[sb] at hc hPlo;generalize w.heap.size+1+1=P at hc hPlo ⊢;have HX:=Lib.hid (Keeps.heap nc (Keeps.heap nb ha (fun h=>h)) (fun h=>h));have hgc:Hid (wc.heap[w.heap.size]? =some (.cells g.cs 26 (0,0))):=Lib.hid (by rw[Gr.cs,HA.out,HE.out];exact HX.out);have HD:Hid (LSt w g P (qL g none 0 [] none 0 []) 0 0 wc):=Lib.hid ⟨⟨World.ownsRow_nil _ _ _ _,World.ownsRow_nil _ _ _ _,World.ownsRow_nil _ _ _ _,World.ownsRow_nil _ _ _ _,(fun x hx=>by cases hx),(fun x hx=>by cases hx),List.Pairwise.nil,(fun k hk=>by obtain⟨y,hy,_⟩:=hk;cases hy)⟩,hc,(fun x hx=>by cases hx),(fun x hx=>by cases hx),(na.trans nb).trans nc,hgc.out,Keeps.heap nc hb (fun h=>h),hPlo⟩;clear na nb nc ha hb hc sa sb hgc HX;go_wp2_with fail;go_loopw [4] (fun i wr=>∃(k:Nat) (a:Option Addr) (c:Nat) (l:List GAct),k<=g.acts.length∧i= .int .i64 k∧Hid (LSt w g P (qL g a c l none 0 []) k 0 wr∧l.map GAct.bare=(g.acts.take k).map GAct.bare∧∀x∈l,LtB wr x.a x.c x.xs)) (fun i _=>g.acts.length-(intOf i).toNat)
 case atStart=>exact⟨0,none,0,[],by omega,rfl,Lib.hid ⟨HD.out,rfl,fun x hx=>by cases hx⟩⟩
 case round=>
  clear HD;obtain⟨k,a,c,l,hk,rfl,HR⟩:=hrel;obtain⟨g0,g1,g2,g3,g4,hGl⟩:=aw HR.out.1.hg;rw[HA.out] at g1;by_cases hk1:k<g.acts.length
  ·have hkI:(k:Int)<(g.acts.length:Int):=by omega
   have hkd:decide (k<g.acts.length)=true:=decide_eq_true hk1;obtain⟨b,off,hab,q0,q1,q2⟩:=cM (HG.out.new HR.out.1.nw).sa hk1;have hbw:b<wr.heap.size:=World.block_lt_of_cell? wr _ q0;have hxl:=FAX.out _ (List.getElem_mem hk1);have HXS:=Lib.hid (fun W (n:New wr W)=>((HG.out.new HR.out.1.nw).ax _ (List.getElem_mem hk1)).new n);have HBS:Hid (∀y:GAct,y.bare=g.acts[k].bare->(l++[y]).map GAct.bare=(g.acts.take (k+1)).map GAct.bare):=Lib.hid (fun y hy=>lw HR.out.2.1 hk1 hy);have HLL:=Lib.hid (fc HR.out.2.1 (by omega));have e:aA=some ⟨b,off,none⟩:=HA.out.symm.trans hab;subst e;clear hab;generalize g.acts[k]=x at q0 q1 q2 hxl HXS HBS;go_wp2_with fail;have kb:New wr (wr.alloc (.cells #[.string x.name,.int .u8 x.tag,.slice x.a x.xs.length x.c] 63)):=(New.refl wr).alloc _;have hby:(wr.alloc (.cells #[.string x.name,.int .u8 x.tag,.slice x.a x.xs.length x.c] 63)).heap[wr.heap.size]? =some (.cells #[.string x.name,.int .u8 x.tag,.slice x.a x.xs.length x.c] 63 (0,0)):=heap_alloc_new wr _;generalize(wr.alloc (.cells #[.string x.name,.int .u8 x.tag,.slice x.a x.xs.length x.c] 63))=w1 at kb hby ⊢;obtain⟨Y,hY⟩:∃Y,Y=wr.heap.size:=⟨_,rfl⟩
   rw[<-hY] at hby ⊢;have HYY:=Lib.hid hY;clear hY;refine(ng x.a x.c x.xs w1 (HXS.out _ kb) (by omega)).mono ?_;rintro e w2 ⟨gb,rfl,hgb,hblk,k2⟩;have hY2:=Keeps.heap k2 hby (fun h=>h);obtain⟨y0,y1,y2,hYl⟩:=jy hY2;have yf:w2.frozen? ⟨Y,2,none⟩=false:=unfrozen_of_block hY2 2;have hYg:¬gb=Y:=by have:=(Array.getElem?_eq_some_iff.1 hby).1;omega
   clear q0 q1 q2 hbw g0 g1 g2 g3 g4 hGl;go_upto_region 7 with(fail)
   have k3:New wr (w2.setCell ⟨Y,2,none⟩ (.slice (some ⟨gb,0,none⟩) x.xs.length (x.xs.length+4))):=(kb.trans k2).setCell (by rw[<-HYY.out];exact Nat.le_refl _) _;have hY3:(w2.setCell ⟨Y,2,none⟩ (.slice (some ⟨gb,0,none⟩) x.xs.length (x.xs.length+4))).heap[Y]? =some (.cells #[.string x.name,.int .u8 x.tag,.slice (some ⟨gb,0,none⟩) x.xs.length (x.xs.length+4)] 63 (0,0)):=by
    rw[block_setCell hY2];simp
   have hb3:=(Keeps.setCell (S:=fun k=>k=Y) w2 ⟨Y,2,none⟩ (.slice (some ⟨gb,0,none⟩) x.xs.length (x.xs.length+4)) rfl).heap hblk hYg;generalize(w2.setCell ⟨Y,2,none⟩ (.slice (some ⟨gb,0,none⟩) x.xs.length (x.xs.length+4)))=w3 at k3 hY3 hb3 ⊢;have kz:New w3 (w3.alloc (.cells #[.string x.name,.int .u8 x.tag,.slice (some ⟨gb,0,none⟩) x.xs.length (x.xs.length+4)] 63)):=(New.refl w3).alloc _;have hlit:am (w3.alloc (.cells #[.string x.name,.int .u8 x.tag,.slice (some ⟨gb,0,none⟩) x.xs.length (x.xs.length+4)] 63)) (some ⟨w3.heap.size,0,none⟩) (bs (⟨x.name,x.tag,some ⟨gb,0,none⟩,x.xs.length+4,x.xs⟩:GAct)):=am.lit w3 _ _;have hoz:(w3.alloc (.cells #[.string x.name,.int .u8 x.tag,.slice (some ⟨gb,0,none⟩) x.xs.length (x.xs.length+4)] 63)).ownsRow w.heap.size 63 3 (.slice a k c) k (l.flatMap bs):=by
    have:=((HR.out.1.new k3).new kz).own.ao;simp only[qL] at this;rw[HLL.out] at this;exact this
   have hxo:bp (w3.alloc (.cells #[.string x.name,.int .u8 x.tag,.slice (some ⟨gb,0,none⟩) x.xs.length (x.xs.length+4)] 63)) w.heap.size (some ⟨gb,0,none⟩) (x.xs.length+4) x.xs:=LtB.own (Keeps.heap kz hb3 (fun h=>h)) (by have:=HR.out.1.nw.size;have:=kb.size;omega) hxl;have hxd:∀k,blk (some ⟨gb,0,none⟩:Option Addr) k->wr.heap.size<=k:=fun k hk=>by
    obtain⟨y,hy,rfl⟩:=hk;cases hy
    exact Nat.le_trans kb.size hgb
   have hbz:w.heap.size<=(w3.alloc (.cells #[.string x.name,.int .u8 x.tag,.slice (some ⟨gb,0,none⟩) x.xs.length (x.xs.length+4)] 63)).heap.size:=Nat.le_trans (Nat.le_trans HR.out.1.nw.size k3.size) kz.size;have hbl3:=Keeps.heap k3 HR.out.1.bl (fun h=>h);simp only[qL] at hbl3;obtain⟨p0,p1,p2,p3,p4,hPl⟩:=aw hbl3;clear hbl3;obtain⟨z0,z1,z2,hZl⟩:=jy hY3;clear y0 y1 y2 hYl yf hYg hY2 hby k2 hblk;have hkf:k<=1048576:=by omega
   go_wp2_with (at_builtin;refine bB rfl _ _ 22 rfl w.heap.size 63 it1 _ 3 48 Tryz.underlying22 hit1 ha0 ha1 ha2 rfl (by decide) a k c (l.flatMap bs) rfl hoz (some ⟨w3.heap.size,0,none⟩) 1 1 (bs (⟨x.name,x.tag,some ⟨gb,0,none⟩,x.xs.length+4,x.xs⟩:GAct)) rfl rfl hlit (mr _) (by unfold maxLen;omega) (by omega) hbz ?_);intro a' c' w4 hown' hk' hm' _;have hadd:=HR.out.1.own.addAct (⟨x.name,x.tag,some ⟨gb,0,none⟩,x.xs.length+4,x.xs⟩:GAct) hxo hxd (k3.trans kz) (by simp only[qL];rw[HLL.out];exact hown') hk' hm';have htag:∀b,blk a b->∃cur,wr.heap[b]? =some (.cells cur 63 (0,0)):=fun b hb=>be HR.out.1.own.ao (bu hb)
   have hP4:=hadd.2.heap HR.out.1.bl (fun hb=>by obtain⟨cur,hc⟩:=htag _ hb;rw[HR.out.1.bl] at hc;simp at hc);have hP5:=hP4;simp only[qL] at hP5;obtain⟨-,v1,-,-,-,hPl4⟩:=aw hP5;clear hP5;have vf:w4.frozen? ⟨P,1,none⟩=false:=unfrozen_of_block hP4 1;have htn:∀b,blk a b->∃cur t fr,wr.heap[b]? =some (.cells cur t fr)∧t≠3:=fun b hb=>by
    obtain⟨cur,hc⟩:=htag b hb;exact⟨cur,_,_,hc,by decide⟩
   have hb4:LtB w4 (some ⟨gb,0,none⟩) (x.xs.length+4) x.xs:=by
    have h0:LtB (w3.alloc (.cells #[.string x.name,.int .u8 x.tag,.slice (some ⟨gb,0,none⟩) x.xs.length (x.xs.length+4)] 63)) (some ⟨gb,0,none⟩) (x.xs.length+4) x.xs:=⟨gb,rfl,rfl,Keeps.heap kz hb3 (fun h=>h)⟩
    refine h0.keeps hk' (fun b hb=>?_);obtain⟨cur,hc⟩:=htag b hb;exact⟨cur,_,_,Keeps.heap (k3.trans kz) hc (fun h=>h),by decide⟩
   have hS:=LSt.set (q':=qL g a' c' (l++[(⟨x.name,x.tag,some ⟨gb,0,none⟩,x.xs.length+4,x.xs⟩:GAct)]) none 0 []) (k+1) 0 (v:= .slice a' (k+1) c') (i:=1) HR.out.1 hadd.1 hadd.2 htag (by decide) (fun b hb=>(an HR.out.1.own.ao hb).1) rfl
    (fun y hy=>by rcases List.mem_append.1 hy with hy|hy;(exact .inl hy);(rw[List.mem_singleton.1 hy];exact .inr (.inr hb4))) (fun y hy=> .inl hy)
   have hL4:∀y∈l++[(⟨x.name,x.tag,some ⟨gb,0,none⟩,x.xs.length+4,x.xs⟩:GAct)],LtB (w4.setCell ⟨P,1,none⟩ (.slice a' (k+1) c')) y.a y.c y.xs:=fun y hy=>by
    have h4:LtB w4 y.a y.c y.xs:=by
     rcases List.mem_append.1 hy with hy|hy
     ·exact(HR.out.2.2 y hy).keeps hadd.2 htn
     ·rw[List.mem_singleton.1 hy];exact hb4
    exact h4.keeps (Keeps.setCell (S:=fun k=>k=P) w4 _ _ rfl) (fun b hb=>⟨_,_,_,hb▸hP4,by decide⟩)
   have HS:=Lib.hid hS;have HL4:=Lib.hid hL4;have HB2:=Lib.hid (HBS.out (⟨x.name,x.tag,some ⟨gb,0,none⟩,x.xs.length+4,x.xs⟩:GAct) rfl);clear hS hL4 hb4 htn hadd htag hP4 hown' hk' hm' hoz hxo hxd hlit hbz kz k3 hY3 hb3 kb hgb p0 p1 p2 p3 p4 hPl z0 z1 z2 hZl HR;go_wp2_with fail;go_roundw
   case rel=>exact⟨k+1,a',c',_,by omega,by go_num,Lib.hid ⟨HS.out,HB2.out,HL4.out⟩⟩
   case measure=>simp[intOf];omega
  ·have hke:k=g.acts.length:=by omega
   have hkd:decide (k<g.acts.length)=false:=decide_eq_false hk1;have HLL:=Lib.hid (fc HR.out.2.1 (by omega));have HBA:Hid (l.map GAct.bare=g.acts.map GAct.bare):=Lib.hid (by have:=HR.out.2.1;rwa [hke,List.take_length] at this);have hkf:k<=1048576:=by omega
   have hbl3:=HR.out.1.bl;simp only[qL] at hbl3;obtain⟨p0,p1,p2,p3,p4,hPl⟩:=aw hbl3;have kz:New wr (wr.alloc (.cells #[.string ⟨#[109,97,114,107]⟩,.int .u8 99,.slice none 0 0] 63)):=(New.refl wr).alloc _;have hlit:am (wr.alloc (.cells #[.string ⟨#[109,97,114,107]⟩,.int .u8 99,.slice none 0 0] 63)) (some ⟨wr.heap.size,0,none⟩) (bs gx):=am.lit wr _ _;have hoz:(wr.alloc (.cells #[.string ⟨#[109,97,114,107]⟩,.int .u8 99,.slice none 0 0] 63)).ownsRow w.heap.size 63 3 (.slice a k c) k (l.flatMap bs):=by
    have:=(HR.out.1.new kz).own.ao;simp only[qL] at this;rw[HLL.out] at this;exact this
   have hbz:w.heap.size<=(wr.alloc (.cells #[.string ⟨#[109,97,114,107]⟩,.int .u8 99,.slice none 0 0] 63)).heap.size:=Nat.le_trans HR.out.1.nw.size kz.size;have HKE:=Lib.hid hke;have hkI:(g.acts.length:Int)<=(k:Int):=by omega
   clear hbl3 hke hk1;go_wp2_with (at_builtin;refine bB rfl _ _ 22 rfl w.heap.size 63 it1 _ 3 48 Tryz.underlying22 hit1 ha0 ha1 ha2 rfl (by decide) a k c (l.flatMap bs) rfl hoz (some ⟨wr.heap.size,0,none⟩) 1 1 (bs gx) rfl rfl hlit (mr _) (by unfold maxLen;omega) (by omega) hbz ?_);intro a' c' w4 hown' hk' hm' _;have hcap:k+1<=c':=by
    rcases hown'.2 with⟨h0,-⟩|⟨g9,cap,cur,h0,hb,hg,hnc,-⟩
    ·simp at h0
    ·simp only[Value.slice.injEq] at h0;obtain⟨-,-,rfl⟩:=h0;exact hnc
   have hadd:=HR.out.1.own.addAct gx (bp.nil _ _) (fun k hk=>by obtain⟨y,hy,_⟩:=hk;cases hy) kz (by simp only[qL];rw[HLL.out];exact hown') hk' hm';have htag:∀b,blk a b->∃cur,wr.heap[b]? =some (.cells cur 63 (0,0)):=fun b hb=>be HR.out.1.own.ao (bu hb)
   have htn:∀b,blk a b->∃cur t fr,wr.heap[b]? =some (.cells cur t fr)∧t≠3:=fun b hb=>by
    obtain⟨cur,hc⟩:=htag b hb;exact⟨cur,_,_,hc,by decide⟩
   have hP4:=hadd.2.heap HR.out.1.bl (fun hb=>by obtain⟨cur,hc⟩:=htag _ hb;rw[HR.out.1.bl] at hc;simp at hc);have hP5:=hP4;simp only[qL] at hP5;obtain⟨-,v1,-,-,-,hPl4⟩:=aw hP5;have vf:w4.frozen? ⟨P,1,none⟩=false:=unfrozen_of_block hP4 1;have hS:=Lib.hid (LSt.set (q':=qL g a' c' (l++[gx]) none 0 []) (k+1) 0 (v:= .slice a' (k+1) c') (i:=1) HR.out.1 hadd.1 hadd.2 htag (by decide) (fun b hb=>(an HR.out.1.own.ao hb).1) rfl
    (fun y hy=>by rcases List.mem_append.1 hy with hy|hy;(exact .inl hy);(rw[List.mem_singleton.1 hy];exact .inr (.inl rfl))) (fun y hy=> .inl hy))
   have HL4:=Lib.hid (fun y (hy:y∈l)=>((HR.out.2.2 y hy).keeps hadd.2 htn).keeps (Keeps.setCell (S:=fun k=>k=P) w4 ⟨P,1,none⟩ (.slice a' (k+1) c') rfl) (fun b hb=>⟨_,_,_,hb▸hP4,by decide⟩));clear hP5 hP4 htn htag hadd hown' hk' hm' hoz hlit hbz kz p0 p1 p2 p3 p4 hPl g0 g1 g2 g3 g4 hGl;go_upto_region 9 with(fail)
   generalize(w4.setCell ⟨P,1,none⟩ (.slice a' (k+1) c'))=w5 at hS HL4 ⊢;clear v1 vf hPl4 HR;obtain⟨g0,g1,g2,g3,g4,hGl⟩:=aw hS.out.hg;obtain⟨p0,p1,p2,p3,p4,hPl⟩:=aw hS.out.bl;simp only[qL] at p1;have pf:w5.frozen? ⟨P,1,none⟩=false:=unfrozen_of_block hS.out.bl 1;rw[HA.out] at g1;have hcI:(g.acts.length:Int)<=(c':Int):=by omega
   go_wp2_with fail;have hS2:=Lib.hid (LSt.set (q':=qL g a' c' (l++[gx]) none 0 []) g.acts.length 0 (v:= .slice a' g.acts.length c') (i:=1) (a:=none) (T:=63) hS.out hS.out.own (Keeps.refl _ _) (fun b hb=>by obtain⟨y,hy,_⟩:=hb;cases hy) (by decide) (fun b hb=>by obtain⟨y,hy,_⟩:=hb;cases hy) rfl (fun y hy=> .inl hy) (fun y hy=> .inl hy));have HLA:=Lib.hid (fun y (hy:y∈l)=>(HL4.out y hy).keeps (Keeps.setCell (S:=fun k=>k=P) w5 ⟨P,1,none⟩ (.slice a' g.acts.length c') rfl) (fun b hb=>⟨_,_,_,hb▸hS.out.bl,by decide⟩));clear hS HL4 g0 g1 g2 g3 g4 hGl p0 p1 p2 p3 p4 hPl pf hcI hcap hkf HKE HLL hkI hkd hk;generalize(w5.setCell ⟨P,1,none⟩ (.slice a' g.acts.length c'))=w6 at hS2 HLA ⊢;obtain⟨a1,rfl⟩:∃z,z=a':=⟨_,rfl⟩
   obtain⟨c1,rfl⟩:∃z,z=c':=⟨_,rfl⟩
   obtain⟨l1,rfl⟩:∃z,z=l:=⟨_,rfl⟩
   have HSOME:Hid (∀y∈l1,∃z,y.a=some z):=Lib.hid (fun y hy=>by obtain⟨z,hz,-⟩:=HLA.out y hy;exact⟨_,hz⟩);have HBX:=HBA;have HD:=hS2;clear hS2 HLA;go_loopw [6] (fun i wr=>∃(k:Nat) (b:Option Addr) (d:Nat) (m:List GEdge),k<=g.edges.length∧i= .int .i64 k∧Hid (LSt w g P (qL g a1 c1 (l1++[gx]) b d m) g.acts.length k wr∧m.map GEdge.bare=(g.edges.take k).map GEdge.bare∧∀x∈m,LtB wr x.a x.c x.xs)) (fun i _=>g.edges.length-(intOf i).toNat)
   case atStart=>exact⟨0,none,0,[],by omega,rfl,Lib.hid ⟨HD.out,rfl,fun x hx=>by cases hx⟩⟩
   case round=>
    clear HD;obtain⟨k,b,d,m,hk,rfl,HR⟩:=hrel;obtain⟨g0,g1,g2,g3,g4,hGl⟩:=aw HR.out.1.hg;rw[HE.out] at g2;by_cases hk1:k<g.edges.length
    ·have hkI:(k:Int)<(g.edges.length:Int):=by omega
     have hkd:decide (k<g.edges.length)=true:=decide_eq_true hk1;obtain⟨bb,off,hab,q0,q1,q2,q3,q4⟩:=cK (HG.out.new HR.out.1.nw).se hk1;have hbw:bb<wr.heap.size:=World.block_lt_of_cell? wr _ q0;have hxl:=FEX.out _ (List.getElem_mem hk1);have HXS:=Lib.hid (fun W (n:New wr W)=>((HG.out.new HR.out.1.nw).ex _ (List.getElem_mem hk1)).new n);have HBS:Hid (∀y:GEdge,y.bare=g.edges[k].bare->(m++[y]).map GEdge.bare=(g.edges.take (k+1)).map GEdge.bare):=Lib.hid (fun y hy=>lw HR.out.2.1 hk1 hy);have HLL:=Lib.hid (fc HR.out.2.1 (by omega));have e:aE=some ⟨bb,off,none⟩:=HE.out.symm.trans hab;subst e;clear hab;generalize g.edges[k]=x at q0 q1 q2 q3 q4 hxl HXS HBS;go_wp2_with fail;have kb:New wr (wr.alloc (.cells #[I x.f,I x.fp,I x.t,I x.tp,.slice x.a x.xs.length x.c] 66)):=(New.refl wr).alloc _;have hby:(wr.alloc (.cells #[I x.f,I x.fp,I x.t,I x.tp,.slice x.a x.xs.length x.c] 66)).heap[wr.heap.size]? =some (.cells #[I x.f,I x.fp,I x.t,I x.tp,.slice x.a x.xs.length x.c] 66 (0,0)):=heap_alloc_new wr _;generalize(wr.alloc (.cells #[I x.f,I x.fp,I x.t,I x.tp,.slice x.a x.xs.length x.c] 66))=w1 at kb hby ⊢;obtain⟨Y,hY⟩:∃Y,Y=wr.heap.size:=⟨_,rfl⟩
     rw[<-hY] at hby ⊢;have HYY:=Lib.hid hY;clear hY;refine(ng x.a x.c x.xs w1 (HXS.out _ kb) (by omega)).mono ?_;rintro e w2 ⟨gb,rfl,hgb,hblk,k2⟩;have hY2:=Keeps.heap k2 hby (fun h=>h);obtain⟨y0,y1,y2,y3,y4,hYl⟩:=dY hY2;have yf:w2.frozen? ⟨Y,4,none⟩=false:=unfrozen_of_block hY2 4;have hYg:¬gb=Y:=by have:=(Array.getElem?_eq_some_iff.1 hby).1;omega
     clear q0 q1 q2 q3 q4 hbw g0 g1 g2 g3 g4 hGl;go_upto_region 15 with(fail)
     have k3:New wr (w2.setCell ⟨Y,4,none⟩ (.slice (some ⟨gb,0,none⟩) x.xs.length (x.xs.length+4))):=(kb.trans k2).setCell (by rw[<-HYY.out];exact Nat.le_refl _) _;have hY3:(w2.setCell ⟨Y,4,none⟩ (.slice (some ⟨gb,0,none⟩) x.xs.length (x.xs.length+4))).heap[Y]? =some (.cells #[I x.f,I x.fp,I x.t,I x.tp,.slice (some ⟨gb,0,none⟩) x.xs.length (x.xs.length+4)] 66 (0,0)):=by
      rw[block_setCell hY2];simp
     have hb3:=(Keeps.setCell (S:=fun k=>k=Y) w2 ⟨Y,4,none⟩ (.slice (some ⟨gb,0,none⟩) x.xs.length (x.xs.length+4)) rfl).heap hblk hYg;generalize(w2.setCell ⟨Y,4,none⟩ (.slice (some ⟨gb,0,none⟩) x.xs.length (x.xs.length+4)))=w3 at k3 hY3 hb3 ⊢;have kz:New w3 (w3.alloc (.cells #[I x.f,I x.fp,I x.t,I x.tp,.slice (some ⟨gb,0,none⟩) x.xs.length (x.xs.length+4)] 66)):=(New.refl w3).alloc _;have hlit:am (w3.alloc (.cells #[I x.f,I x.fp,I x.t,I x.tp,.slice (some ⟨gb,0,none⟩) x.xs.length (x.xs.length+4)] 66)) (some ⟨w3.heap.size,0,none⟩) (aZ (⟨x.f,x.fp,x.t,x.tp,some ⟨gb,0,none⟩,x.xs.length+4,x.xs⟩:GEdge)):=am.lit w3 _ _;have hoz:(w3.alloc (.cells #[I x.f,I x.fp,I x.t,I x.tp,.slice (some ⟨gb,0,none⟩) x.xs.length (x.xs.length+4)] 66)).ownsRow w.heap.size 66 5 (.slice b k d) k (m.flatMap aZ):=by
      have:=((HR.out.1.new k3).new kz).own.eo;simp only[qL] at this;rw[HLL.out] at this;exact this
     have hxo:bp (w3.alloc (.cells #[I x.f,I x.fp,I x.t,I x.tp,.slice (some ⟨gb,0,none⟩) x.xs.length (x.xs.length+4)] 66)) w.heap.size (some ⟨gb,0,none⟩) (x.xs.length+4) x.xs:=LtB.own (Keeps.heap kz hb3 (fun h=>h)) (by have:=HR.out.1.nw.size;have:=kb.size;omega) hxl;have hxd:∀k,blk (some ⟨gb,0,none⟩:Option Addr) k->wr.heap.size<=k:=fun k hk=>by
      obtain⟨y,hy,rfl⟩:=hk;cases hy
      exact Nat.le_trans kb.size hgb
     have hbz:w.heap.size<=(w3.alloc (.cells #[I x.f,I x.fp,I x.t,I x.tp,.slice (some ⟨gb,0,none⟩) x.xs.length (x.xs.length+4)] 66)).heap.size:=Nat.le_trans (Nat.le_trans HR.out.1.nw.size k3.size) kz.size;have hbl3:=Keeps.heap k3 HR.out.1.bl (fun h=>h);simp only[qL] at hbl3;obtain⟨p0,p1,p2,p3,p4,hPl⟩:=aw hbl3;clear hbl3;obtain⟨z0,z1,z2,z3,z4,hZl⟩:=dY hY3;clear y0 y1 y2 y3 y4 hYl yf hYg hY2 hby k2 hblk;have hkf:k<=1048576:=by omega
     go_wp2_with (at_builtin;refine bB rfl _ _ 23 rfl w.heap.size 66 it2 _ 5 56 Tryz.underlying23 hit2 he0 he1 he2 rfl (by decide) b k d (m.flatMap aZ) rfl hoz (some ⟨w3.heap.size,0,none⟩) 1 1 (aZ (⟨x.f,x.fp,x.t,x.tp,some ⟨gb,0,none⟩,x.xs.length+4,x.xs⟩:GEdge)) rfl rfl hlit (kL _) (by unfold maxLen;omega) (by omega) hbz ?_);intro b' d' w4 hown' hk' hm' _;have hadd:=HR.out.1.own.addEdge (⟨x.f,x.fp,x.t,x.tp,some ⟨gb,0,none⟩,x.xs.length+4,x.xs⟩:GEdge) hxo hxd (k3.trans kz) (by simp only[qL];rw[HLL.out];exact hown') hk' hm';have htag:∀b9,blk b b9->∃cur,wr.heap[b9]? =some (.cells cur 66 (0,0)):=fun b9 hb=>be HR.out.1.own.eo (bu hb)
     have hP4:=hadd.2.heap HR.out.1.bl (fun hb=>by obtain⟨cur,hc⟩:=htag _ hb;rw[HR.out.1.bl] at hc;simp at hc);have hP5:=hP4;simp only[qL] at hP5;obtain⟨-,-,v1,-,-,hPl4⟩:=aw hP5;clear hP5;have vf:w4.frozen? ⟨P,2,none⟩=false:=unfrozen_of_block hP4 2;have htn:∀b9,blk b b9->∃cur t fr,wr.heap[b9]? =some (.cells cur t fr)∧t≠3:=fun b hb=>by
      obtain⟨cur,hc⟩:=htag _ hb;exact⟨cur,_,_,hc,by decide⟩
     have hb4:LtB w4 (some ⟨gb,0,none⟩) (x.xs.length+4) x.xs:=by
      have h0:LtB (w3.alloc (.cells #[I x.f,I x.fp,I x.t,I x.tp,.slice (some ⟨gb,0,none⟩) x.xs.length (x.xs.length+4)] 66)) (some ⟨gb,0,none⟩) (x.xs.length+4) x.xs:=⟨gb,rfl,rfl,Keeps.heap kz hb3 (fun h=>h)⟩
      refine h0.keeps hk' (fun b hb=>?_);obtain⟨cur,hc⟩:=htag _ hb;exact⟨cur,_,_,Keeps.heap (k3.trans kz) hc (fun h=>h),by decide⟩
     have hS:=LSt.set (q':=qL g a1 c1 (l1++[gx]) b' d' (m++[(⟨x.f,x.fp,x.t,x.tp,some ⟨gb,0,none⟩,x.xs.length+4,x.xs⟩:GEdge)])) g.acts.length (k+1) (v:= .slice b' (k+1) d') (i:=2) HR.out.1 hadd.1 hadd.2 htag (by decide) (fun b hb=>(an HR.out.1.own.eo hb).1) rfl
      (fun y hy=> .inl hy) (fun y hy=>by rcases List.mem_append.1 hy with hy|hy;(exact .inl hy);(rw[List.mem_singleton.1 hy];exact .inr (.inr hb4)))
     have hL4:∀y∈m++[(⟨x.f,x.fp,x.t,x.tp,some ⟨gb,0,none⟩,x.xs.length+4,x.xs⟩:GEdge)],LtB (w4.setCell ⟨P,2,none⟩ (.slice b' (k+1) d')) y.a y.c y.xs:=fun y hy=>by
      have h4:LtB w4 y.a y.c y.xs:=by
       rcases List.mem_append.1 hy with hy|hy
       ·exact(HR.out.2.2 y hy).keeps hadd.2 htn
       ·rw[List.mem_singleton.1 hy];exact hb4
      exact h4.keeps (Keeps.setCell (S:=fun k=>k=P) w4 _ _ rfl) (fun b hb=>⟨_,_,_,hb▸hP4,by decide⟩)
     have HS:=Lib.hid hS;have HL4:=Lib.hid hL4;have HB2:=Lib.hid (HBS.out (⟨x.f,x.fp,x.t,x.tp,some ⟨gb,0,none⟩,x.xs.length+4,x.xs⟩:GEdge) rfl);clear hS hL4 hb4 htn hadd htag hP4 hown' hk' hm' hoz hxo hxd hlit hbz kz k3 hY3 hb3 kb hgb p0 p1 p2 p3 p4 hPl z0 z1 z2 z3 z4 hZl HR;go_wp2_with fail;go_roundw
     case rel=>exact⟨k+1,b',d',_,by omega,by go_num,Lib.hid ⟨HS.out,HB2.out,HL4.out⟩⟩
     case measure=>simp[intOf];omega
    ·have hke:k=g.edges.length:=by omega
     have hkd:decide (k<g.edges.length)=false:=decide_eq_false hk1;have HLL:=Lib.hid (fc HR.out.2.1 (by omega));have HBA:Hid (m.map GEdge.bare=g.edges.map GEdge.bare):=Lib.hid (by have:=HR.out.2.1;rwa [hke,List.take_length] at this);have hkf:k<=1048576:=by omega
     have hbl3:=HR.out.1.bl;simp only[qL] at hbl3;obtain⟨p0,p1,p2,p3,p4,hPl⟩:=aw hbl3;have kz:New wr (wr.alloc (.cells #[I (-7770777),I 0,I 0,I 0,.slice none 0 0] 66)):=(New.refl wr).alloc _;have hlit:am (wr.alloc (.cells #[I (-7770777),I 0,I 0,I 0,.slice none 0 0] 66)) (some ⟨wr.heap.size,0,none⟩) (aZ gU):=am.lit wr _ _;have hoz:(wr.alloc (.cells #[I (-7770777),I 0,I 0,I 0,.slice none 0 0] 66)).ownsRow w.heap.size 66 5 (.slice b k d) k (m.flatMap aZ):=by
      have:=(HR.out.1.new kz).own.eo;simp only[qL] at this;rw[HLL.out] at this;exact this
     have hbz:w.heap.size<=(wr.alloc (.cells #[I (-7770777),I 0,I 0,I 0,.slice none 0 0] 66)).heap.size:=Nat.le_trans HR.out.1.nw.size kz.size;have HKE:=Lib.hid hke;have hkI:(g.edges.length:Int)<=(k:Int):=by omega
     clear hbl3 hke hk1;go_wp2_with (at_builtin;refine bB rfl _ _ 23 rfl w.heap.size 66 it2 _ 5 56 Tryz.underlying23 hit2 he0 he1 he2 rfl (by decide) b k d (m.flatMap aZ) rfl hoz (some ⟨wr.heap.size,0,none⟩) 1 1 (aZ gU) rfl rfl hlit (kL _) (by unfold maxLen;omega) (by omega) hbz ?_);intro b' d' w4 hown' hk' hm' _;have hcap:k+1<=d':=by
      rcases hown'.2 with⟨h0,-⟩|⟨g9,cap,cur,h0,hb,hg,hnc,-⟩
      ·simp at h0
      ·simp only[Value.slice.injEq] at h0;obtain⟨-,-,rfl⟩:=h0;exact hnc
     have hadd:=HR.out.1.own.addEdge gU (bp.nil _ _) (fun k hk=>by obtain⟨y,hy,_⟩:=hk;cases hy) kz (by simp only[qL];rw[HLL.out];exact hown') hk' hm';have htag:∀b9,blk b b9->∃cur,wr.heap[b9]? =some (.cells cur 66 (0,0)):=fun b9 hb=>be HR.out.1.own.eo (bu hb)
     have htn:∀b9,blk b b9->∃cur t fr,wr.heap[b9]? =some (.cells cur t fr)∧t≠3:=fun b hb=>by
      obtain⟨cur,hc⟩:=htag _ hb;exact⟨cur,_,_,hc,by decide⟩
     have hP4:=hadd.2.heap HR.out.1.bl (fun hb=>by obtain⟨cur,hc⟩:=htag _ hb;rw[HR.out.1.bl] at hc;simp at hc);have hP5:=hP4;simp only[qL] at hP5;obtain⟨-,-,v1,-,-,hPl4⟩:=aw hP5;have vf:w4.frozen? ⟨P,2,none⟩=false:=unfrozen_of_block hP4 2;have hS:=Lib.hid (LSt.set (q':=qL g a1 c1 (l1++[gx]) b' d' (m++[gU])) g.acts.length (k+1) (v:= .slice b' (k+1) d') (i:=2) HR.out.1 hadd.1 hadd.2 htag (by decide) (fun b hb=>(an HR.out.1.own.eo hb).1) rfl
      (fun y hy=> .inl hy) (fun y hy=>by rcases List.mem_append.1 hy with hy|hy;(exact .inl hy);(rw[List.mem_singleton.1 hy];exact .inr (.inl rfl))))
     have HL4:=Lib.hid (fun y (hy:y∈m)=>((HR.out.2.2 y hy).keeps hadd.2 htn).keeps (Keeps.setCell (S:=fun k=>k=P) w4 ⟨P,2,none⟩ (.slice b' (k+1) d') rfl) (fun b hb=>⟨_,_,_,hb▸hP4,by decide⟩));clear hP5 hP4 htn htag hadd hown' hk' hm' hoz hlit hbz kz p0 p1 p2 p3 p4 hPl g0 g1 g2 g3 g4 hGl;go_upto_region 17 with(fail)
     generalize(w4.setCell ⟨P,2,none⟩ (.slice b' (k+1) d'))=w5 at hS HL4 ⊢;clear v1 vf hPl4 HR;obtain⟨g0,g1,g2,g3,g4,hGl⟩:=aw hS.out.hg;obtain⟨p0,p1,p2,p3,p4,hPl⟩:=aw hS.out.bl;simp only[qL] at p2;have pf:w5.frozen? ⟨P,2,none⟩=false:=unfrozen_of_block hS.out.bl 2;rw[HE.out] at g2;have hcI:(g.edges.length:Int)<=(d':Int):=by omega
     go_wp2_with fail;have hS2:=Lib.hid (LSt.set (q':=qL g a1 c1 (l1++[gx]) b' d' (m++[gU])) g.acts.length g.edges.length (v:= .slice b' g.edges.length d') (i:=2) (a:=none) (T:=66) hS.out hS.out.own (Keeps.refl _ _) (fun b hb=>by obtain⟨y,hy,_⟩:=hb;cases hy) (by decide) (fun b hb=>by obtain⟨y,hy,_⟩:=hb;cases hy) rfl (fun y hy=> .inl hy) (fun y hy=> .inl hy));have HLA:=Lib.hid (fun y (hy:y∈m)=>(HL4.out y hy).keeps (Keeps.setCell (S:=fun k=>k=P) w5 ⟨P,2,none⟩ (.slice b' g.edges.length d') rfl) (fun b hb=>⟨_,_,_,hb▸hS.out.bl,by decide⟩));clear hS HL4 g0 g1 g2 g3 g4 hGl p0 p1 p2 p3 p4 hPl pf hcI hcap hkf HKE HLL hkI hkd hk;generalize(w5.setCell ⟨P,2,none⟩ (.slice b' g.edges.length d'))=w7 at hS2 HLA ⊢;obtain⟨g0,g1,g2,g3,g4,hGl⟩:=aw hS2.out.hg;have hP1:=(LSt.bl hS2.out)
     have pf3:w7.frozen? ⟨P,3,none⟩=false:=unfrozen_of_block hP1 3;have pf4:w7.frozen? ⟨P,4,none⟩=false:=unfrozen_of_block hP1 4;obtain⟨p0,p1,p2,p3,p4,hPl⟩:=aw hP1;go_wp2_with fail;refine(iO w7 g.ia g.ic g.ins ((HG.out.new hS2.out.nw).si) (by omega)).mono ?_;rintro e w8 ⟨ia,ic,rfl,hio,k8⟩;have hS3:=Lib.hid (hS2.out.new k8);clear hP1 pf3 pf4 p0 p1 p2 p3 p4 hPl g0 g1 g2 g3 g4 hGl;obtain⟨g0,g1,g2,g3,g4,hGl⟩:=aw hS3.out.hg;obtain⟨p0,p1,p2,p3,p4,hPl⟩:=aw hS3.out.bl;have pf3:w8.frozen? ⟨P,3,none⟩=false:=unfrozen_of_block hS3.out.bl 3;go_wp2_with fail;have k89:Keeps (fun k=>k=P) w8 (w8.setCell ⟨P,3,none⟩ (.slice ia g.ins.length ic)):=Keeps.setCell w8 _ _ rfl;have hb9:=block_setCell (i:=3) hS3.out.bl (.slice ia g.ins.length ic);have hPlo:w.heap.size+1<P:=hS3.out.hP;have hN9:New w (w8.setCell ⟨P,3,none⟩ (.slice ia g.ins.length ic)):=hS3.out.nw.setCell (by simp;omega) _;generalize(w8.setCell ⟨P,3,none⟩ (.slice ia g.ins.length ic))=w9 at k89 hb9 hN9 ⊢;refine(iO w9 g.oa g.oc g.outs ((HG.out.new hN9).so) (by omega)).mono ?_;rintro e w10 ⟨oa,oc,rfl,hoo,k10⟩;have hT8:∀k,k=P->∃cur t fr,w8.heap[k]? =some (.cells cur t fr)∧t≠3:=fun k hk=>⟨_,_,_,hk▸hS3.out.bl,by decide⟩
     have hown10:=(hS3.out.own.other k89 (fun k hk=> .inr ⟨_,_,_,hk▸hS3.out.bl,by decide⟩)).new k10;have hla10:∀y∈l1,LtB w10 y.a y.c y.xs:=fun y hy=>by
      rcases hS3.out.la y (List.mem_append.2 (.inl hy)) with h1|h1
      ·obtain⟨z,hz⟩:=HSOME.out y hy;rw[h1] at hz;cases hz
      ·exact(h1.keeps k89 hT8).new k10
     have hle10:∀y∈m,LtB w10 y.a y.c y.xs:=fun y hy=>(((HLA.out y hy).new k8).keeps k89 hT8).new k10
     have hio10:=k10.owns (au hio k89 (fun k hk=>⟨_,_,_,hk▸hS3.out.bl,by decide⟩));have hio':=ownsRow_le hio10 hS2.out.nw.size;have hoo':=ownsRow_le hoo hN9.size;have HEND:=Lib.hid (And.intro hown10 (And.intro hla10 (And.intro hle10 (And.intro hio' hoo'))));have hN10:New w w10:=hN9.trans k10;have hb10:=k10.heap hb9 (fun h=>h);have hR10:=k10.heap (k89.heap hS3.out.hr (by omega)) (fun h=>h);have HN10:=Lib.hid hN10;clear hT8 hown10 hla10 hle10 hio10 hio' hoo' hio hoo hN10 k10 k89 hb9 hN9 g0 g1 g2 g3 g4 hGl p0 p1 p2 p3 p4 hPl pf3 k8;simp only[qL,List.setIfInBounds_toArray,List.set_cons_succ,List.set_cons_zero] at hb10;have pf4:w10.frozen? ⟨P,4,none⟩=false:=unfrozen_of_block hb10 4;obtain⟨-,-,-,-,p4,hPl⟩:=aw hb10;go_upto_region 20 with(fail)
     clear p4 hPl;have k11:Keeps (fun k=>k=P) w10 (w10.setCell ⟨P,4,none⟩ (.slice oa g.outs.length oc)):=Keeps.setCell w10 _ _ rfl;have hb11:=block_setCell (i:=4) hb10 (.slice oa g.outs.length oc);simp only[List.setIfInBounds_toArray,List.set_cons_succ,List.set_cons_zero] at hb11;generalize(w10.setCell ⟨P,4,none⟩ (.slice oa g.outs.length oc))=w11 at k11 hb11 ⊢;have hR11:=k11.heap hR10 (by omega);have hTP:∀k,k=P∨k=w.heap.size+1->∃cur,w10.heap[k]? =some (.cells cur 26 (0,0)):=fun k hk=>by
      rcases hk with rfl|rfl
      ·exact⟨_,hb10⟩
      ·exact⟨_,hR10⟩
     have HTP:=Lib.hid hTP;have HPLO:=Lib.hid hPlo;clear hTP hb10 hR10 pf4;obtain⟨p0,p1,p2,p3,p4,hPl⟩:=aw hb11;obtain⟨r0,r1,r2,r3,r4,hRl⟩:=aw hR11;have rf0:w11.frozen? ⟨w.heap.size+1,0,none⟩=false:=unfrozen_of_block hR11 0;have rf1:w11.frozen? ⟨w.heap.size+1,1,none⟩=false:=unfrozen_of_block hR11 1;have rf2:w11.frozen? ⟨w.heap.size+1,2,none⟩=false:=unfrozen_of_block hR11 2;have rf3:w11.frozen? ⟨w.heap.size+1,3,none⟩=false:=unfrozen_of_block hR11 3;have rf4:w11.frozen? ⟨w.heap.size+1,4,none⟩=false:=unfrozen_of_block hR11 4;have HR11:=Lib.hid hR11;clear hR11 hb11;go_wp2_with fail;obtain⟨hRW,k12⟩:=eh HR11.out (.string g.name) (.slice a1 g.acts.length c1) (.slice b' g.edges.length d') (.slice ia g.ins.length ic) (.slice oa g.outs.length oc);generalize(((((w11.setCell ⟨w.heap.size+1,0,none⟩ (.string g.name)).setCell ⟨w.heap.size+1,1,none⟩ (.slice a1 g.acts.length c1)).setCell ⟨w.heap.size+1,2,none⟩ (.slice b' g.edges.length d')).setCell ⟨w.heap.size+1,3,none⟩ (.slice ia g.ins.length ic)).setCell ⟨w.heap.size+1,4,none⟩ (.slice oa g.outs.length oc))=W9 at hRW k12 ⊢;have kAll:Keeps (fun k=>k=P∨k=w.heap.size+1) w10 W9:=(k11.mono (fun _ _ h=> .inl h)).trans k12 (fun _ _ h=> .inr h);clear p0 p1 p2 p3 p4 hPl r0 r1 r2 r3 r4 hRl rf0 rf1 rf2 rf3 rf4 HR11 k11 k12;obtain⟨c0,c1',c2,c3,c4,hCl⟩:=aw hRW;refine bodyPost_ret (v:= .agg #[.string g.name,.slice a1 g.acts.length c1,.slice b' g.edges.length d',.slice ia g.ins.length ic,.slice oa g.outs.length oc]) (by simp[results,Tryz.results17,go_sem,c0,c1',c2,c3,c4,hCl]) rfl ?_;rw[<-HP.out];have hti:∀k,k=P∨k=w.heap.size+1->∃cur t fr,w10.heap[k]? =some (.cells cur t fr)∧t≠3:=fun k hk=>by
      obtain⟨cur,hc⟩:=HTP.out k hk;exact⟨cur,_,_,hc,by decide⟩
     have htp:∀k,k=P∨k=w.heap.size+1->∃cur t fr,w10.heap[k]? =some (.cells cur t fr)∧t≠82:=fun k hk=>by
      obtain⟨cur,hc⟩:=HTP.out k hk;exact⟨cur,_,_,hc,by decide⟩
     have hHE:=HEND.out;refine⟨a1,c1,l1,b',d',m,ia,ic,oa,oc,rfl,?_,HBX.out,HBA.out,fun y hy=>(hHE.2.1 y hy).keeps kAll hti,fun y hy=>(hHE.2.2.1 y hy).keeps kAll hti,au hHE.2.2.2.1 kAll htp,au hHE.2.2.2.2 kAll htp,?_⟩
     ·exact hHE.1.other kAll (fun k hk=> .inr (by obtain⟨cur,hc⟩:=HTP.out k hk;exact⟨_,_,_,hc,by decide⟩))
     ·exact New.keeps HN10.out kAll (fun i hi hk=>by have:=HPLO.out;rcases hk with rfl|rfl<;>omega)
structure Lended (w:World) (B:Nat) (g q:Gr):Prop where
 bare:q.bare=g.bare
 ow:GrOwn w B (qL q q.aa q.ac (q.acts++[gx]) q.ea q.ec (q.edges++[gU]))
 la:∀x∈q.acts,LtB w x.a x.c x.xs
 le:∀x∈q.edges,LtB w x.a x.c x.xs
 io:w.ownsRow B 82 3 (.slice q.ia (q.ins.length+1) q.ic) (q.ins.length+1) ((q.ins++[iY]).flatMap aJ)
 oo:w.ownsRow B 82 3 (.slice q.oa (q.outs.length+1) q.oc) (q.outs.length+1) ((q.outs++[iY]).flatMap aJ)
theorem am.snoc {α:Type} {f:α->List Value} {w:World} {a:Option Addr} {l:List α} {x:α} (h:am w a ((l++[x]).flatMap f)):am w a (l.flatMap f):=by
 rw[List.flatMap_append] at h;exact h.left
theorem Lended.at {w:World} {B:Nat} {g q:Gr} (h:Lended w B g q):GrAt w q:=
 ⟨(am.of_owns h.ow.ao).snoc,(am.of_owns h.ow.eo).snoc,(am.of_owns h.io).snoc,(am.of_owns h.oo).snoc,fun x hx=>(h.la x hx).sl,fun x hx=>(h.le x hx).sl⟩
theorem Lended.new {w w':World} {B:Nat} {g q:Gr} (h:Lended w B g q) (k:New w w'):Lended w' B g q:=
 ⟨h.bare,h.ow.new k,fun x hx=>(h.la x hx).new k,fun x hx=>(h.le x hx).new k,k.owns h.io,k.owns h.oo⟩
theorem py.lended {w w':World} {g:Gr} {e:Ending} (h:py w g e w'):∃q,e= .returned q.v∧Lended w' w.heap.size g q∧New w w':=by
 obtain⟨a,c,l,b,d,m,ia,ic,oa,oc,rfl,hown,hl,hm,hla,hle,hi,ho,k⟩:=h;refine⟨⟨g.name,a,c,l,b,d,m,ia,ic,g.ins,oa,oc,g.outs⟩,?_,⟨?_,hown,hla,hle,hi,ho⟩,k⟩
 ·simp only[Gr.v,Gr.cs];rw[gg hl,gg hm]
 ·unfold Gr.bare;simp only[hl,hm]
theorem jm {α:Type} {f:α->List Value} {n:Nat} (hf:∀x,(f x).length=n) (hn:0<n) {w:World} {B:Nat} {t:TypeId} {a:Option Addr} {c:Nat} {l:List α} {x:α} (h:w.ownsRow B t n (.slice a (l.length+1) c) (l.length+1) ((l++[x]).flatMap f)):
  ∃b,a=some ⟨b,0,none⟩∧l.length+1<=c∧∀j (hj:j<n),w.cell? ⟨b,l.length*n+j,none⟩=(f x)[j]? :=by
 have hS:=am.of_owns h;rcases h.2 with⟨h0,-⟩|⟨g9,cap,cur,h0,hb,hg,hnc,-⟩
 ·simp at h0
 ·simp only[Value.slice.injEq] at h0;obtain⟨rfl,-,rfl⟩:=h0;refine⟨g9,rfl,hnc,fun j hj=>?_⟩;obtain⟨b,off,e,k⟩:=kU (n:=n) (l:=l++[x]) (i:=l.length) hf hn hS (by simp);cases e
  have:=k j hj;simpa using this
theorem GLen.bare {q g:Gr} (h:GLen g) (e:q.bare=g.bare):GLen q:=by
 obtain⟨h1,h2,h3,h4,h5⟩:=eQ e;refine⟨by rw[gg h2];exact h.a,by rw[gg h3];exact h.e,by rw[h4];exact h.i,by rw[h5];exact h.o,fun x hx=>?_,fun x hx=>?_,by rw[h4];exact h.ix,by rw[h5];exact h.ox,by rw[h1];exact h.n⟩
 ·have hm:x.bare∈g.acts.map GAct.bare:=h2▸List.mem_map_of_mem hx;obtain⟨y,hy,he⟩:=List.mem_map.1 hm;have e1:y.xs=x.xs:=by have:=congrArg GAct.xs he;exact this
  have e2:y.name=x.name:=by have:=congrArg GAct.name he;exact this
  rw[<-e1,<-e2];exact h.ax y hy
 ·have hm:x.bare∈g.edges.map GEdge.bare:=h3▸List.mem_map_of_mem hx;obtain⟨y,hy,he⟩:=List.mem_map.1 hm;have e1:y.xs=x.xs:=by have:=congrArg GEdge.xs he;exact this
  rw[<-e1];exact h.ex y hy
theorem GFew.bare {q g:Gr} (h:GFew g) (e:q.bare=g.bare):GFew q:=by
 obtain⟨h1,h2,h3,h4,h5⟩:=eQ e;refine⟨by rw[gg h2,gg h3,h4,h5];exact h.n,fun x hx=>?_,fun x hx=>?_⟩
 ·have hm:x.bare∈g.acts.map GAct.bare:=h2▸List.mem_map_of_mem hx;obtain⟨y,hy,he⟩:=List.mem_map.1 hm;have e1:y.xs=x.xs:=by have:=congrArg GAct.xs he;exact this
  rw[<-e1];exact h.ax y hy
 ·have hm:x.bare∈g.edges.map GEdge.bare:=h3▸List.mem_map_of_mem hx;obtain⟨y,hy,he⟩:=List.mem_map.1 hm;have e1:y.xs=x.xs:=by have:=congrArg GEdge.xs he;exact this
  rw[<-e1];exact h.ex y hy
set_option maxRecDepth 100000 in
set_option maxHeartbeats 16000000 in
theorem lq (w:World) (g q:Gr) (B:Nat) (hg:GrAt w g) (hq:Lended w B g q) (hf:GFew g) (hl:GLen g):
  Calls Tryz.prog 21 #[q.v,g.v] w fun e w'=>e= .returned (.bool true)∧New w w':=by
 obtain⟨h1,h2,h3,h4,h5⟩:=eQ hq.bare;have l2:=(gg h2).symm;have l3:=(gg h3).symm;have hfn:=(hf.bare hq.bare).n;have HFA:=Lib.hid (hf.bare hq.bare).ax;have HFE:=Lib.hid (hf.bare hq.bare).ex;have HSG:=Lib.hid (fun W (k:New w W)=>lu W q g (hq.at.new k) (hg.new k) hq.bare (hl.bare hq.bare));clear hf hl;have HGA:=Lib.hid hg.sa;have HGE:=Lib.hid hg.se;have HGX:=Lib.hid hg.ax;have HGY:=Lib.hid hg.ex;obtain⟨b1,f1,cA,mA⟩:=jm (n:=3) (l:=q.acts) (fun _=>rfl) (by decide) (by simpa using hq.ow.ao);obtain⟨b2,f2,cE,mE⟩:=jm (n:=5) (l:=q.edges) (fun _=>rfl) (by decide) (by simpa using hq.ow.eo);obtain⟨b3,f3,cI,mI⟩:=jm (n:=3) (fun _=>rfl) (by decide) hq.io;obtain⟨b4,f4,cO,mO⟩:=jm (n:=3) (fun _=>rfl) (by decide) hq.oo;have MA:=Lib.hid (mA 1 (by decide));have ME:=Lib.hid (mE 0 (by decide));have MI:=Lib.hid (mI 1 (by decide));have MO:=Lib.hid (mO 1 (by decide));clear mA mE mI mO;have HQA:=Lib.hid hq.at.sa;have HQE:=Lib.hid hq.at.se;have HLA:=Lib.hid hq.la;have HLE:=Lib.hid hq.le;clear hg hq;obtain⟨qn,qaa,qac,qacts,qea,qec,qedges,qia,qic,qins,qoa,qoc,qouts⟩:=q;obtain⟨gn,gaa,gac,gacts,gea,gec,gedges,gia,gic,gins,goa,goc,gouts⟩:=g;simp only[Gr.v,Gr.cs] at h1 h2 h3 h4 h5 l2 l3 hfn HFA HFE f1 f2 f3 f4 cA cE cI cO MA ME MI MO HQA HQE HLA HLE HGA HGE HGX HGY HSG ⊢;subst h1 h4 h5 f1 f2 f3 f4;rw[l2,l3] at HSG ⊢;have H2:=Lib.hid h2;have H3:=Lib.hid h3;have HL2:=Lib.hid l2;have HL3:=Lib.hid l3;clear h2 h3 l2 l3;go_enter Tryz.func21,Tryz.ntmps21;have na:New w (w.alloc (.cells #[.string qn,.slice (some ⟨b1,0,none⟩) qacts.length qac,.slice (some ⟨b2,0,none⟩) qedges.length qec,.slice (some ⟨b3,0,none⟩) qins.length qic,.slice (some ⟨b4,0,none⟩) qouts.length qoc] 26)):=(New.refl w).alloc _;have ha:(w.alloc (.cells #[.string qn,.slice (some ⟨b1,0,none⟩) qacts.length qac,.slice (some ⟨b2,0,none⟩) qedges.length qec,.slice (some ⟨b3,0,none⟩) qins.length qic,.slice (some ⟨b4,0,none⟩) qouts.length qoc] 26)).heap[w.heap.size]? =some (.cells #[.string qn,.slice (some ⟨b1,0,none⟩) qacts.length qac,.slice (some ⟨b2,0,none⟩) qedges.length qec,.slice (some ⟨b3,0,none⟩) qins.length qic,.slice (some ⟨b4,0,none⟩) qouts.length qoc] 26 (0,0)):=heap_alloc_new w _;have sa:(w.alloc (.cells #[.string qn,.slice (some ⟨b1,0,none⟩) qacts.length qac,.slice (some ⟨b2,0,none⟩) qedges.length qec,.slice (some ⟨b3,0,none⟩) qins.length qic,.slice (some ⟨b4,0,none⟩) qouts.length qoc] 26)).heap.size=w.heap.size+1:=ay _ _;have nb:New (w.alloc (.cells #[.string qn,.slice (some ⟨b1,0,none⟩) qacts.length qac,.slice (some ⟨b2,0,none⟩) qedges.length qec,.slice (some ⟨b3,0,none⟩) qins.length qic,.slice (some ⟨b4,0,none⟩) qouts.length qoc] 26)) ((w.alloc (.cells #[.string qn,.slice (some ⟨b1,0,none⟩) qacts.length qac,.slice (some ⟨b2,0,none⟩) qedges.length qec,.slice (some ⟨b3,0,none⟩) qins.length qic,.slice (some ⟨b4,0,none⟩) qouts.length qoc] 26)).alloc (.cells #[.string qn,.slice gaa qacts.length gac,.slice gea qedges.length gec,.slice gia qins.length gic,.slice goa qouts.length goc] 26)):=(New.refl _).alloc _;have hb:((w.alloc (.cells #[.string qn,.slice (some ⟨b1,0,none⟩) qacts.length qac,.slice (some ⟨b2,0,none⟩) qedges.length qec,.slice (some ⟨b3,0,none⟩) qins.length qic,.slice (some ⟨b4,0,none⟩) qouts.length qoc] 26)).alloc (.cells #[.string qn,.slice gaa qacts.length gac,.slice gea qedges.length gec,.slice gia qins.length gic,.slice goa qouts.length goc] 26)).heap[w.heap.size+1]? =some (.cells #[.string qn,.slice gaa qacts.length gac,.slice gea qedges.length gec,.slice gia qins.length gic,.slice goa qouts.length goc] 26 (0,0)):=by
  have:=heap_alloc_new (w.alloc (.cells #[.string qn,.slice (some ⟨b1,0,none⟩) qacts.length qac,.slice (some ⟨b2,0,none⟩) qedges.length qec,.slice (some ⟨b3,0,none⟩) qins.length qic,.slice (some ⟨b4,0,none⟩) qouts.length qoc] 26)) (.cells #[.string qn,.slice gaa qacts.length gac,.slice gea qedges.length gec,.slice gia qins.length gic,.slice goa qouts.length goc] 26);rwa [sa] at this
 replace ha:=Keeps.heap nb ha (fun h=>h);have kA:=na.trans nb;clear na nb sa;go_wp2_with fail;generalize((w.alloc (.cells #[.string qn,.slice (some ⟨b1,0,none⟩) qacts.length qac,.slice (some ⟨b2,0,none⟩) qedges.length qec,.slice (some ⟨b3,0,none⟩) qins.length qic,.slice (some ⟨b4,0,none⟩) qouts.length qoc] 26)).alloc (.cells #[.string qn,.slice gaa qacts.length gac,.slice gea qedges.length gec,.slice gia qins.length gic,.slice goa qouts.length goc] 26))=W at kA ha hb ⊢;have HA:=Lib.hid ha;have HB:=Lib.hid hb;clear ha hb;refine(HSG.out W kA).mono ?_;rintro e W2 ⟨rfl,k2⟩;replace HA:=Lib.hid (Keeps.heap k2 HA.out (fun h=>h));replace HB:=Lib.hid (Keeps.heap k2 HB.out (fun h=>h));have HN2:=Lib.hid (kA.trans k2);clear kA k2 HSG;go_wp2_with fail;go_loopw [5] (fun i wr=>∃k:Nat,k<=qacts.length∧i= .int .i64 k∧New W2 wr) (fun i _=>qacts.length-(intOf i).toNat)
 case atStart=>exact⟨0,by omega,rfl,New.refl _⟩
 case round=>
  obtain⟨k,hk,rfl,hN⟩:=hrel;obtain⟨c0,c1,c2,c3,c4,hCl⟩:=aw (Keeps.heap hN HA.out (fun h=>h));obtain⟨d0,d1,d2,d3,d4,hDl⟩:=aw (Keeps.heap hN HB.out (fun h=>h));have hNw:=HN2.out.trans hN;by_cases hk1:k<qacts.length
  ·have hk2:k<gacts.length:=by have:=HL2.out;omega
   obtain⟨bq,oq,e1,q0,q1,q2⟩:=cM (HQA.out.new hNw) hk1;obtain⟨bg,og,e2,p0,p1,p2⟩:=cM (HGA.out.new hNw) hk2;cases e1
   subst e2;obtain⟨lb,la,lc,lh⟩:=(HLA.out _ (List.getElem_mem hk1)).new hNw;have hgs:=(HGX.out _ (List.getElem_mem hk2)).new hNw;have he:=mn H2.out k hk1 hk2;have hxl:=HFA.out _ (List.getElem_mem hk1);have hk0:(k:Int)<(qacts.length:Int):=by omega
   have hkd:decide (k<qacts.length)=true:=decide_eq_true hk1;generalize qacts[k]=x at q0 q1 q2 la lc lh hxl he;generalize gacts[k]=y at p0 p1 p2 hgs he;obtain⟨xn,xt,xa,xc,xxs⟩:=x;obtain⟨yn,yt,ya,yc,yxs⟩:=y;simp only[GAct.bare,GAct.mk.injEq,true_and] at he;obtain⟨rfl,rfl,rfl⟩:=he;simp only[Nat.zero_add] at q0 q1 q2 p0 p1 p2 la lc lh hxl hgs;subst la lc;have hbq:b1<wr.heap.size:=World.block_lt_of_cell? wr _ q0;have hbg:bg<wr.heap.size:=World.block_lt_of_cell? wr _ p0;have hkc:=fun n=>m9 lb ya yc xxs (wr.drewN n) (Keeps.heap ((New.refl wr).drewN n) lh (fun h=>h)) (hgs.new ((New.refl wr).drewN n)) (by omega)
   clear lh hgs;go_wp2_with fail;go_quiet ((go_at_call 44;exact Calls.quiet_of (hkc _)))
   go_wp2_with fail;go_roundw
   case rel=>exact⟨k+1,by omega,by go_num,by first|exact hN|exact hN.drewN _⟩
   case measure=>simp[intOf];omega
  ·have hkd:decide (k<qacts.length)=false:=decide_eq_false hk1;have hkI:(qacts.length:Int)<=(k:Int):=by omega
   clear hk hk1;replace HA:=Lib.hid (Keeps.heap hN HA.out (fun h=>h));replace HB:=Lib.hid (Keeps.heap hN HB.out (fun h=>h));replace HN2:=Lib.hid hNw;clear hN hNw;obtain⟨W2,rfl⟩:∃z,z=wr:=⟨_,rfl⟩
   go_wp2_with fail;go_loopw [6] (fun i wr=>∃k:Nat,k<=qedges.length∧i= .int .i64 k∧New W2 wr) (fun i _=>qedges.length-(intOf i).toNat)
   case atStart=>exact⟨0,by omega,rfl,New.refl _⟩
   case round=>
    obtain⟨k,hk,rfl,hN⟩:=hrel;obtain⟨c0,c1,c2,c3,c4,hCl⟩:=aw (Keeps.heap hN HA.out (fun h=>h));obtain⟨d0,d1,d2,d3,d4,hDl⟩:=aw (Keeps.heap hN HB.out (fun h=>h));have hNw:=HN2.out.trans hN;by_cases hk1:k<qedges.length
    ·have hk2:k<gedges.length:=by have:=HL3.out;omega
     obtain⟨bq,oq,e1,q0,q1,q2,q3,q4⟩:=cK (HQE.out.new hNw) hk1;obtain⟨bg,og,e2,p0,p1,p2,p3,p4⟩:=cK (HGE.out.new hNw) hk2;cases e1
     subst e2;obtain⟨lb,la,lc,lh⟩:=(HLE.out _ (List.getElem_mem hk1)).new hNw;have hgs:=(HGY.out _ (List.getElem_mem hk2)).new hNw;have he:=mn H3.out k hk1 hk2;have hxl:=HFE.out _ (List.getElem_mem hk1);have hk0:(k:Int)<(qedges.length:Int):=by omega
     have hkd:decide (k<qedges.length)=true:=decide_eq_true hk1;generalize qedges[k]=x at q0 q1 q2 q3 q4 la lc lh hxl he;generalize gedges[k]=y at p0 p1 p2 p3 p4 hgs he;obtain⟨xf,xfp,xt,xtp,xa,xc,xxs⟩:=x;obtain⟨yf,yfp,yt,ytp,ya,yc,yxs⟩:=y;simp only[GEdge.bare,GEdge.mk.injEq,true_and] at he;obtain⟨rfl,rfl,rfl,rfl,rfl⟩:=he;simp only[Nat.zero_add] at q0 q1 q2 q3 q4 p0 p1 p2 p3 p4 la lc lh hxl hgs;subst la lc;have hbq:b2<wr.heap.size:=World.block_lt_of_cell? wr _ q0;have hbg:bg<wr.heap.size:=World.block_lt_of_cell? wr _ p0;have hkc:=fun n=>m9 lb ya yc xxs (wr.drewN n) (Keeps.heap ((New.refl wr).drewN n) lh (fun h=>h)) (hgs.new ((New.refl wr).drewN n)) (by omega)
     clear lh hgs;go_wp2_with fail;go_quiet ((go_at_call 44;exact Calls.quiet_of (hkc _)))
     go_wp2_with fail;go_roundw
     case rel=>exact⟨k+1,by omega,by go_num,by first|exact hN|exact hN.drewN _⟩
     case measure=>simp[intOf];omega
    ·have hkd:decide (k<qedges.length)=false:=decide_eq_false hk1;have hkI:(qedges.length:Int)<=(k:Int):=by omega
     clear hk hk1;replace HA:=Lib.hid (Keeps.heap hN HA.out (fun h=>h));replace HB:=Lib.hid (Keeps.heap hN HB.out (fun h=>h));replace HN2:=Lib.hid hNw;clear hN hNw;obtain⟨W2,rfl⟩:∃z,z=wr:=⟨_,rfl⟩
     have mA:W2.cell? ⟨b1,qacts.length*3+1,none⟩=some (.int .u8 99):=New.cell HN2.out MA.out;have mE:W2.cell? ⟨b2,qedges.length*5,none⟩=some (I (-7770777)):=New.cell HN2.out ME.out;have mI:W2.cell? ⟨b3,qins.length*3+1,none⟩=some (I (-7770777)):=New.cell HN2.out MI.out;have mO:W2.cell? ⟨b4,qouts.length*3+1,none⟩=some (I (-7770777)):=New.cell HN2.out MO.out;go_wp2_with fail;go_ret
     exact⟨rfl,HN2.out⟩
end Go.Proofs.YtnedmonlofbahaaGreatDoor
namespace Go.Proofs.YtnedmonlofbahaaGreatDoor
open Go Go.RowKit Go.ChangeShapes Go.WideShapes Go.ChangeAt Go.Deep Go.Joins
set_option linter.all false
section
variable {H:Type} {enc:TypeId×Value->H} {P:Program} {w:World} {base:Nat} {spare:Nat->Bool} {held:Bool}
theorem qR {r:Reach} {b0:Nat} {t:TypeId} {f0 f1 f2 f3 f4:Field} {v:Value} {d:DataW H} {p:List MemPlace} (hs:P.underlying t=some (.struct #[f0,f1,f2,f3,f4])) (hone:oneCellFields P #[f0,f1,f2,f3,f4]=true) (hC:P.cellsOf t=5)
  (hv:Value.okWide P w r b0 t v) (h:DataW.Trod enc P w base spare held t v d p):
  ∃(v0 v1 v2 v3 v4:Value) (y0 y1 y2 y3 y4:DataW H×List MemPlace) (n:Nat),v= .agg #[v0,v1,v2,v3,v4]∧d= .agg [y0.1,y1.1,y2.1,y3.1,y4.1]∧
   DataW.trod enc P w base spare held n f0.type [v0]=some y0∧DataW.trod enc P w base spare held n f1.type [v1]=some y1∧DataW.trod enc P w base spare held n f2.type [v2]=some y2∧DataW.trod enc P w base spare held n f3.type [v3]=some y3∧DataW.trod enc P w base spare held n f4.type [v4]=some y4:=by
 obtain⟨cs,rfl,hsz⟩:=okWide_struct hs hv;obtain⟨l⟩:=cs
 match l,hsz.trans hC with
 |[c0,c1,c2,c3,c4],_=>
  obtain⟨fuel,hf⟩:=h;obtain⟨xs,n,_,hx,_,hlen,hg⟩:=DataW.trod_struct hs hf;obtain⟨o0,k0⟩:=hone_of hone 0 f0 rfl;obtain⟨o1,k1⟩:=hone_of hone 1 f1 rfl;obtain⟨o2,k2⟩:=hone_of hone 2 f2 rfl;obtain⟨o3,k3⟩:=hone_of hone 3 f3 rfl;obtain⟨o4,k4⟩:=hone_of hone 4 f4 rfl
  match xs,hlen with
  |[y0,y1,y2,y3,y4],_=>
   simp only[Prod.mk.injEq] at hx;exact⟨c0,c1,c2,c3,c4,y0,y1,y2,y3,y4,n,rfl,by simpa using hx.1,by simpa[Value.cells,o0,k0] using hg 0 f0 rfl,by simpa[Value.cells,o1,k1] using hg 1 f1 rfl,by simpa[Value.cells,o2,k2] using hg 2 f2 rfl,by simpa[Value.cells,o3,k3] using hg 3 f3 rfl,by simpa[Value.cells,o4,k4] using hg 4 f4 rfl⟩
end
theorem ob:Tryz.prog.bytesOf 63=48:=by kernel_rfl
theorem oZ {H:Type} {enc:TypeId×Value->H} {W:World} {fuel:Nat} {v:Value} {y:DataW H×List MemPlace}
  (h:DataW.trod enc Tryz.prog W 0 (fun _=>true) true fuel 22 [v]=some y):
  ∃(ao:Option Addr) (c:Nat) (l:List GAct),v= .slice ao l.length c∧am W ao (l.flatMap bs)∧(∀x∈l,(am W x.a (Is x.xs)∧x.xs.length<=maxLen)∧(x.name.size<=maxLen∧0<=x.tag∧x.tag<=255∧∀y∈x.xs,eI y))∧l.length<=maxLen∧
   ∀B,(∀m∈y.1.weights Tryz.prog 22,m<=B)->l.length*48<=B∧∀x∈l,x.xs.length*8<=B:=by
 rcases eD Tryz.underlying22 Tryz.underlying63 (by kernel_rfl) (by kernel_rfl) h with⟨hcs,hx⟩|⟨a,len,cap,m,D,Pl,hcs,_,hl,hm,hmm,hx,hi⟩
 ·simp only[List.cons.injEq,and_true] at hcs;subst hcs;exact⟨none,0,[],rfl,am.nil _ _,by simp,by simp,by simp⟩
 ·simp only[List.cons.injEq,and_true] at hcs;simp only[if_true] at hmm;subst hcs;subst hmm;have hone:∀i,i<len->∃x:GAct,(∀j,j<3->W.cell? (a.add (i*3+j))=(bs x)[j]?)∧((am W x.a (Is x.xs)∧x.xs.length<=maxLen)∧(x.name.size<=maxLen∧0<=x.tag∧x.tag<=255∧∀y∈x.xs,eI y))∧∀B,(∀m∈(D i).weights Tryz.prog 63,m<=B)->x.xs.length*8<=B:=by
   intro i hil;obtain⟨ys,n,hD,_,hyl,hf⟩:=hi i (by omega);obtain⟨v0,y0,c0,g0,t0⟩:=hf 0 _ rfl;obtain⟨v1,y1,c1,g1,t1⟩:=hf 1 _ rfl;obtain⟨v2,y2,c2,g2,t2⟩:=hf 2 _ rfl;obtain⟨n0,e0,-,r0⟩:=DataW.trod_string Tryz.underlying9 t0;simp only[List.cons.injEq,and_true] at e0;subst e0;obtain⟨n1,e1,-,r1⟩:=DataW.trod_int Tryz.underlying60 t1;simp only[List.cons.injEq,and_true] at e1;subst e1;replace r1:=uc r1;obtain⟨a2,d2,xs,rfl,hs,hw,hxl,hd⟩:=kS t2;refine⟨⟨n0,n1,a2,d2,xs⟩,fun j hj=>?_,⟨⟨hs,hxl⟩,r0,r1.1,r1.2,hw⟩,fun B hB=>jR hd (fun m hm=>hB m ?_)⟩
   ·match j,hj with
    |0,_=>exact c0
    |1,_=>exact c1
    |2,_=>exact c2
   ·have hys:ys.map (·.1)=[y0.1,y1.1,y2.1]:=by
     match ys,hyl with
     |[u0,u1,u2],_=>
      simp only[List.getElem?_cons_zero,List.getElem?_cons_succ,Option.some.injEq] at g0 g1 g2;rw[g0,g1,g2];rfl
    rw[hD,hys];simp[DataW.weights,DataW.weightsEach,Tryz.underlying63,hm]
  obtain⟨l,hlen,hat⟩:=ip len hone;subst hlen;refine⟨some a,_,l,rfl,mx bs 3 (fun _=>rfl) l (fun i hi j hj=>(hat i hi).1 j hj),fun x hx=>?_,by omega,fun B hB=>⟨?_,fun x hxm=>?_⟩⟩
  ·obtain⟨i,hi,rfl⟩:=List.getElem_of_mem hx;exact(hat i hi).2.1
  ·rw[hx] at hB;simp only[DataW.weights,Tryz.underlying22,ob,List.mem_cons,List.mem_append] at hB;have:=hB _ (.inl rfl);simp only[List.length_map,List.length_range] at this;omega
  ·obtain⟨i,hi,rfl⟩:=List.getElem_of_mem hxm;refine(hat i hi).2.2 B (fun m hm=>hB m ?_);rw[hx];simp only[DataW.weights,Tryz.underlying22,List.mem_cons,List.mem_append];exact .inr (.inl (ib (List.mem_map.2 ⟨i,by simpa using hi,rfl⟩) hm))
theorem p8:Tryz.prog.bytesOf 66=56:=by kernel_rfl
theorem nH {H:Type} {enc:TypeId×Value->H} {W:World} {fuel:Nat} {v:Value} {y:DataW H×List MemPlace}
  (h:DataW.trod enc Tryz.prog W 0 (fun _=>true) true fuel 23 [v]=some y):
  ∃(ao:Option Addr) (c:Nat) (l:List GEdge),v= .slice ao l.length c∧am W ao (l.flatMap aZ)∧(∀x∈l,(am W x.a (Is x.xs)∧x.xs.length<=maxLen)∧(eI x.f∧eI x.fp∧eI x.t∧eI x.tp∧∀y∈x.xs,eI y))∧l.length<=maxLen∧
   ∀B,(∀m∈y.1.weights Tryz.prog 23,m<=B)->l.length*56<=B∧∀x∈l,x.xs.length*8<=B:=by
 rcases eD Tryz.underlying23 Tryz.underlying66 (by kernel_rfl) (by kernel_rfl) h with⟨hcs,hx⟩|⟨a,len,cap,m,D,Pl,hcs,_,hl,hm,hmm,hx,hi⟩
 ·simp only[List.cons.injEq,and_true] at hcs;subst hcs;exact⟨none,0,[],rfl,am.nil _ _,by simp,by simp,by simp⟩
 ·simp only[List.cons.injEq,and_true] at hcs;simp only[if_true] at hmm;subst hcs;subst hmm;have hone:∀i,i<len->∃x:GEdge,(∀j,j<5->W.cell? (a.add (i*5+j))=(aZ x)[j]?)∧((am W x.a (Is x.xs)∧x.xs.length<=maxLen)∧(eI x.f∧eI x.fp∧eI x.t∧eI x.tp∧∀y∈x.xs,eI y))∧∀B,(∀m∈(D i).weights Tryz.prog 66,m<=B)->x.xs.length*8<=B:=by
   intro i hil;obtain⟨ys,n,hD,_,hyl,hf⟩:=hi i (by omega);obtain⟨v0,y0,c0,g0,t0⟩:=hf 0 _ rfl;obtain⟨v1,y1,c1,g1,t1⟩:=hf 1 _ rfl;obtain⟨v2,y2,c2,g2,t2⟩:=hf 2 _ rfl;obtain⟨v3,y3,c3,g3,t3⟩:=hf 3 _ rfl;obtain⟨v4,y4,c4,g4,t4⟩:=hf 4 _ rfl;obtain⟨n0,e0,-,r0⟩:=DataW.trod_int Tryz.underlying3 t0;simp only[List.cons.injEq,and_true] at e0;subst e0;replace r0:=eU r0;obtain⟨n1,e1,-,r1⟩:=DataW.trod_int Tryz.underlying3 t1;simp only[List.cons.injEq,and_true] at e1;subst e1;replace r1:=eU r1;obtain⟨n2,e2,-,r2⟩:=DataW.trod_int Tryz.underlying3 t2;simp only[List.cons.injEq,and_true] at e2;subst e2;replace r2:=eU r2;obtain⟨n3,e3,-,r3⟩:=DataW.trod_int Tryz.underlying3 t3;simp only[List.cons.injEq,and_true] at e3;subst e3;replace r3:=eU r3;obtain⟨a4,d4,xs,rfl,hs,hw,hxl,hd⟩:=kS t4;refine⟨⟨n0,n1,n2,n3,a4,d4,xs⟩,fun j hj=>?_,⟨⟨hs,hxl⟩,r0,r1,r2,r3,hw⟩,fun B hB=>jR hd (fun m hm=>hB m ?_)⟩
   ·match j,hj with
    |0,_=>exact c0
    |1,_=>exact c1
    |2,_=>exact c2
    |3,_=>exact c3
    |4,_=>exact c4
   ·have hys:ys.map (·.1)=[y0.1,y1.1,y2.1,y3.1,y4.1]:=by
     match ys,hyl with
     |[u0,u1,u2,u3,u4],_=>
      simp only[List.getElem?_cons_zero,List.getElem?_cons_succ,Option.some.injEq] at g0 g1 g2 g3 g4;rw[g0,g1,g2,g3,g4];rfl
    rw[hD,hys];simp[DataW.weights,DataW.weightsEach,Tryz.underlying66,hm]
  obtain⟨l,hlen,hat⟩:=ip len hone;subst hlen;refine⟨some a,_,l,rfl,mx aZ 5 (fun _=>rfl) l (fun i hi j hj=>(hat i hi).1 j hj),fun x hx=>?_,by omega,fun B hB=>⟨?_,fun x hxm=>?_⟩⟩
  ·obtain⟨i,hi,rfl⟩:=List.getElem_of_mem hx;exact(hat i hi).2.1
  ·rw[hx] at hB;simp only[DataW.weights,Tryz.underlying23,p8,List.mem_cons,List.mem_append] at hB;have:=hB _ (.inl rfl);simp only[List.length_map,List.length_range] at this;omega
  ·obtain⟨i,hi,rfl⟩:=List.getElem_of_mem hxm;refine(hat i hi).2.2 B (fun m hm=>hB m ?_);rw[hx];simp only[DataW.weights,Tryz.underlying23,List.mem_cons,List.mem_append];exact .inr (.inl (ib (List.mem_map.2 ⟨i,by simpa using hi,rfl⟩) hm))
theorem p9:Tryz.prog.bytesOf 82=32:=by kernel_rfl
theorem jU {H:Type} {enc:TypeId×Value->H} {W:World} {fuel:Nat} {v:Value} {y:DataW H×List MemPlace}
  (h:DataW.trod enc Tryz.prog W 0 (fun _=>true) true fuel 24 [v]=some y):
  ∃(ao:Option Addr) (c:Nat) (l:List GPort),v= .slice ao l.length c∧am W ao (l.flatMap aJ)∧(∀x∈l,(x.name.size<=maxLen∧eI x.ac∧eI x.po))∧l.length<=maxLen∧
   ∀B,(∀m∈y.1.weights Tryz.prog 24,m<=B)->l.length*32<=B:=by
 rcases eD Tryz.underlying24 Tryz.underlying82 (by kernel_rfl) (by kernel_rfl) h with⟨hcs,hx⟩|⟨a,len,cap,m,D,Pl,hcs,_,hl,hm,hmm,hx,hi⟩
 ·simp only[List.cons.injEq,and_true] at hcs;subst hcs;exact⟨none,0,[],rfl,am.nil _ _,by simp,by simp,by simp⟩
 ·simp only[List.cons.injEq,and_true] at hcs;simp only[if_true] at hmm;subst hcs;subst hmm;have hone:∀i,i<len->∃x:GPort,(∀j,j<3->W.cell? (a.add (i*3+j))=(aJ x)[j]?)∧((x.name.size<=maxLen∧eI x.ac∧eI x.po)):=by
   intro i hil;obtain⟨ys,n,hD,_,hyl,hf⟩:=hi i (by omega);obtain⟨v0,y0,c0,g0,t0⟩:=hf 0 _ rfl;obtain⟨v1,y1,c1,g1,t1⟩:=hf 1 _ rfl;obtain⟨v2,y2,c2,g2,t2⟩:=hf 2 _ rfl;obtain⟨n0,e0,-,r0⟩:=DataW.trod_string Tryz.underlying9 t0;simp only[List.cons.injEq,and_true] at e0;subst e0;obtain⟨n1,e1,-,r1⟩:=DataW.trod_int Tryz.underlying3 t1;simp only[List.cons.injEq,and_true] at e1;subst e1;replace r1:=eU r1;obtain⟨n2,e2,-,r2⟩:=DataW.trod_int Tryz.underlying3 t2;simp only[List.cons.injEq,and_true] at e2;subst e2;replace r2:=eU r2;refine⟨⟨n0,n1,n2⟩,fun j hj=>?_,⟨r0,r1,r2⟩⟩
   ·match j,hj with
    |0,_=>exact c0
    |1,_=>exact c1
    |2,_=>exact c2
  obtain⟨l,hlen,hat⟩:=ip len hone;subst hlen;refine⟨some a,_,l,rfl,mx aJ 3 (fun _=>rfl) l (fun i hi j hj=>(hat i hi).1 j hj),fun x hx=>?_,by omega,fun B hB=>?_⟩
  ·obtain⟨i,hi,rfl⟩:=List.getElem_of_mem hx;exact(hat i hi).2
  ·rw[hx] at hB;simp only[DataW.weights,Tryz.underlying24,p9,List.mem_cons,List.mem_append] at hB;have:=hB _ (.inl rfl);simp only[List.length_map,List.length_range] at this;omega
structure GWf (g:Gr):Prop where
 tag:∀x∈g.acts,0<=x.tag∧x.tag<=255
 ax:∀x∈g.acts,∀y∈x.xs,eI y
 en:∀x∈g.edges,eI x.f∧eI x.fp∧eI x.t∧eI x.tp
 ex:∀x∈g.edges,∀y∈x.xs,eI y
 ix:∀x∈g.ins,eI x.ac∧eI x.po
 ox:∀x∈g.outs,eI x.ac∧eI x.po
set_option maxRecDepth 100000 in
theorem o5 {H:Type} {enc:TypeId×Value->H} {W:World} {r:Reach} {b0:Nat} {v:Value} {d:DataW H} {p:List MemPlace} (hv:Value.okWide Tryz.prog W r b0 26 v)
  (h:DataW.Trod enc Tryz.prog W 0 (fun _=>true) true 26 v d p):∃g:Gr,v=g.v∧GrAt W g∧GLen g∧GWf g∧((∀m∈d.weights Tryz.prog 26,m<=140737488351232)->GRoom g):=by
 obtain⟨v0,v1,v2,v3,v4,y0,y1,y2,y3,y4,n,rfl,rfl,h0,h1,h2,h3,h4⟩:=qR Tryz.underlying26 (by kernel_rfl) (by kernel_rfl) hv h;obtain⟨s0,e0,-,z0⟩:=DataW.trod_string Tryz.underlying9 h0;simp only[List.cons.injEq,and_true] at e0;subst e0;obtain⟨a1,c1,l1,rfl,s1,x1,n1,w1⟩:=oZ h1;obtain⟨a2,c2,l2,rfl,s2,x2,n2,w2⟩:=nH h2;obtain⟨a3,c3,l3,rfl,s3,x3,n3,w3⟩:=jU h3;obtain⟨a4,c4,l4,rfl,s4,x4,n4,w4⟩:=jU h4;have hm:∀n:Nat,n<=maxLen->n<=9223372036854775807:=fun n h=>by unfold maxLen at h;exact h
 refine⟨⟨s0,a1,c1,l1,a2,c2,l2,a3,c3,l3,a4,c4,l4⟩,rfl,⟨s1,s2,s3,s4,fun x hx=>(x1 x hx).1.1,fun x hx=>(x2 x hx).1.1⟩,
  ⟨hm _ n1,hm _ n2,hm _ n3,hm _ n4,fun x hx=>⟨hm _ (x1 x hx).1.2,hm _ (x1 x hx).2.1⟩,fun x hx=>hm _ (x2 x hx).1.2,fun x hx=>hm _ (x3 x hx).1,fun x hx=>hm _ (x4 x hx).1,hm _ z0⟩,
  ⟨fun x hx=>⟨(x1 x hx).2.2.1,(x1 x hx).2.2.2.1⟩,fun x hx=>(x1 x hx).2.2.2.2,fun x hx=>⟨(x2 x hx).2.1,(x2 x hx).2.2.1,(x2 x hx).2.2.2.1,(x2 x hx).2.2.2.2.1⟩,fun x hx=>(x2 x hx).2.2.2.2.2,fun x hx=>(x3 x hx).2,fun x hx=>(x4 x hx).2⟩,fun hB=>?_⟩
 have b1:=w1 140737488351232 (fun m hm=>hB m (by simp[DataW.weights,DataW.weightsEach,Tryz.underlying26,hm]));have b2:=w2 140737488351232 (fun m hm=>hB m (by simp[DataW.weights,DataW.weightsEach,Tryz.underlying26,hm]));have b3:=w3 140737488351232 (fun m hm=>hB m (by simp[DataW.weights,DataW.weightsEach,Tryz.underlying26,hm]));have b4:=w4 140737488351232 (fun m hm=>hB m (by simp[DataW.weights,DataW.weightsEach,Tryz.underlying26,hm]));refine⟨show l1.length<=_ by have:=b1.1;omega,show l2.length<=_ by have:=b2.1;omega,show l3.length<=_ by omega,show l4.length<=_ by omega,fun x hx=>?_,fun x hx=>?_⟩
 ·have:=b1.2 x hx;omega
 ·have:=b2.2 x hx;omega
end Go.Proofs.YtnedmonlofbahaaGreatDoor
