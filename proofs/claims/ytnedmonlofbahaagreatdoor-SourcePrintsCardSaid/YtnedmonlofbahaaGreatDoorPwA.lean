/-
  SkO, ReadSk, SkW, SkRa: what is wanted of them.
-/
import Derived.Test.YtnedmonlofbahaaGreatDoorSwD
import Derived.Test.YtnedmonlofbahaaGreatDoorDbl
import Derived.Deep.Strs
import Derived.Deep.DeepCutAuto
import Derived.Deep.CutBlock
namespace Go.Proofs.YtnedmonlofbahaaGreatDoor
open Go Go.RowKit Go.Joins
set_option linter.all false
theorem wm {w:World} {ops:Array Oper} {rest:List Oper} {o:Oper} {a:Act} {Q:Exit->Act->World->Prop} (hgd:o.guard=none) (sl x:Operand)
  (ho:o.op= .call { callee:= .builtin .append,args:=#[sl,x],argTypes:=#[138,9] })
  (base:Nat) (ab:Option Addr) (cb:Nat) (Bs:List UInt8) (n:Nat) (hs:a.eval sl= .slice ab n cb) (hown:w.ownsRow base 5 1 (.slice ab n cb) n (dA Bs)) (s:ByteArray) (hx:a.eval x= .string s)
  (hb:n+s.size<=60000000) (hbase:base<=w.heap.size)
  (h:∀a' c' w',w'.ownsRow base 5 1 (.slice a' (n+s.size) c') (n+s.size) (dA (Bs++s.data.toList))->Keeps (blk ab) w w'->wpList Tryz.prog ops Q rest (a.put o.dst (.slice a' (n+s.size) c')) w'):wpList Tryz.prog ops Q (o::rest) a w:=by
 obtain⟨i0,hi,hz0,hz1,hz2⟩:=info_parts infoByte;refine Lib.wpList_append_own_string w hgd sl x 138 9 ho base 5 i0 Tryz.underlying138 Tryz.underlying9 hi hz0 hz1 hz2 (.slice ab n cb) n (dA Bs) hs hown s hx (by unfold maxLen;omega) (by omega) hbase ?_;intro v' w' h1 hg _;obtain⟨a',c',rfl⟩:=nk h1;refine h a' c' w' ?_ (Keeps.grown hg (fun k h=>bH h.symm));unfold dA;rw[List.map_append];exact h1
theorem wq (l:List UInt8):∀u∈dA l,u.oneCell'=true:=by
 intro u hu;obtain⟨b,_,rfl⟩:=List.mem_map.1 hu;rfl
theorem wn (a b:List UInt8):dA (a++b)=dA a++dA b:=by unfold dA;rw[List.map_append]
end Go.Proofs.YtnedmonlofbahaaGreatDoor
namespace Go.Proofs.YtnedmonlofbahaaGreatDoor
open Go Go.RowKit Go.ChangeShapes Go.WideShapes Go.ChangeAt Go.Deep Go.Joins
set_option linter.all false
structure ItW (W:World) (x:SIt):Prop where
 nx:am W x.a (Is x.xs)
 nl:x.xs.length<=maxLen
 kd:0<=x.kind∧x.kind<=255
 nm:x.name.size<=maxLen
 tg:x.tag.size<=maxLen
 xs:∀y∈x.xs,eI y
 fn:x.fn.size<=maxLen
 fp:eI x.fp
 tn:x.tn.size<=maxLen
 tp:eI x.tp
structure SWf (W:World) (s:Sk):Prop where
 n:s.name.size<=maxLen
 i:s.items.length<=maxLen
 it:∀x∈s.items,ItW W x
theorem SWf.bnd {W:World} {s:Sk} (h:SWf W s):s.name.size<=9223372036854775807∧s.items.length<=9223372036854775807:=by
 have h1:=h.n;have h2:=h.i;unfold maxLen at h1 h2;exact⟨h1,h2⟩
end Go.Proofs.YtnedmonlofbahaaGreatDoor
namespace Go.Proofs.YtnedmonlofbahaaGreatDoor
open Go Go.RowKit Go.Joins
set_option linter.all false
def wt:SIt:=⟨99,⟨#[109,97,114,107]⟩,⟨#[]⟩,none,0,[],⟨#[]⟩,0,0,⟨#[]⟩,0,0,0⟩
theorem SkOwn.other {S:Nat->Prop} {w w':World} {B:Nat} {q:Sk} (h:SkOwn w B q) (k:Keeps S w w') (hS:∀g,S g->∃cur t fr,w.heap[g]? =some (.cells cur t fr)∧t≠3∧t≠105):SkOwn w' B q:=
 ⟨au h.io k (fun g hg=>by obtain⟨c,t,fr,h1,_,h2⟩:=hS g hg;exact⟨c,t,fr,h1,h2⟩),fun x hx=>au (h.nx x hx) k (fun g hg=>by obtain⟨c,t,fr,h1,h2,_⟩:=hS g hg;exact⟨c,t,fr,h1,h2⟩),h.ap⟩
theorem SkOwn.add {w1 w2 w3:World} {B:Nat} {q:Sk} (h:SkOwn w1 B q) (x:SIt) (hx:bp w2 B x.a x.c x.xs) (hd:∀k,blk x.a k->w1.heap.size<=k) (k12:New w1 w2)
  {a':Option Addr} {c':Nat} (ho:w3.ownsRow B 105 11 (.slice a' (q.items.length+1) c') (q.items.length+1) (q.items.flatMap aS++aS x)) (hk:Keeps (blk q.ia) w2 w3):
  SkOwn w3 B { q with ia:=a',ic:=c',items:=q.items++[x] } ∧Keeps (blk q.ia) w1 w3:=by
 have h2:=h.new k12;have htag:∀g,blk q.ia g->∃cur,w2.heap[g]? =some (.cells cur 105 (0,0)):=fun g hg=>be h2.io (bu hg)
 have hto:∀e:TypeId,105≠e->∀g,blk q.ia g->∃cur t fr,w2.heap[g]? =some (.cells cur t fr)∧t≠e:=fun e he g hg=>by
  obtain⟨cur,hc⟩:=htag g hg;exact⟨cur,_,_,hc,he⟩
 refine⟨⟨?_,?_,?_⟩,(Keeps.mono k12 (fun _ _ h=>h.elim)).trans hk (fun _ _ h=>h)⟩
 ·simpa using ho
 ·intro y hy;rcases List.mem_append.1 hy with hy|hy
  ·exact au (h2.nx y hy) hk (hto _ (by decide))
  ·rw[List.mem_singleton.1 hy];exact au hx hk (hto _ (by decide))
 ·simp only[List.map_append,List.map_cons,List.map_nil];rw[List.pairwise_append];refine⟨h.ap,List.pairwise_singleton _ _,fun b hb c hc=>?_⟩;rw[List.mem_singleton.1 hc];intro k hk1 hk2;obtain⟨y,hy,rfl⟩:=List.mem_map.1 hb;have h3:=(an (h.nx y hy) hk1).2;have h4:=hd k hk2;omega
structure LSs (w:World) (s:Sk) (P:Nat) (q:Sk) (n:Nat) (w':World):Prop where
 own:SkOwn w' w.heap.size q
 bl:w'.heap[P]? =some (.cells #[.string s.name,.slice q.ia n q.ic] 52 (0,0))
 la:∀x∈q.items,x=wt∨LtB w' x.a x.c x.xs
 nw:New w w'
 hs:w'.heap[w.heap.size]? =some (.cells s.cs 52 (0,0))
 hr:w'.heap[w.heap.size+1]? =some (.cells #[.string ⟨#[]⟩,.slice none 0 0] 52 (0,0))
 hP:w.heap.size+1<P
theorem LSs.new {w w1 w2:World} {s:Sk} {P n:Nat} {q:Sk} (h:LSs w s P q n w1) (k:New w1 w2):LSs w s P q n w2:=
 ⟨h.own.new k,Keeps.heap k h.bl (fun h=>h),fun x hx=>(h.la x hx).imp id (fun y=>y.new k),h.nw.trans k,Keeps.heap k h.hs (fun h=>h),Keeps.heap k h.hr (fun h=>h),h.hP⟩
theorem LSs.set {w w1:World} {s:Sk} {P n:Nat} {q q':Sk} (m:Nat) (h:LSs w s P q n w1) {w3:World} {a:Option Addr} (hown:SkOwn w3 w.heap.size q') (k:Keeps (blk a) w1 w3) (ht:∀b,blk a b->∃cur,w1.heap[b]? =some (.cells cur 105 (0,0))) (hlo:∀b,blk a b->w.heap.size<=b)
  (hla:∀x∈q'.items,x∈q.items∨x=wt∨LtB w3 x.a x.c x.xs):LSs w s P q' m (w3.setCell ⟨P,1,none⟩ (.slice q'.ia m q'.ic)):=by
 have hP:=h.hP;have hh:∀ {b:Nat} {cs:Array Value},w1.heap[b]? =some (.cells cs 52 (0,0))->w3.heap[b]? =some (.cells cs 52 (0,0)):=fun hb=>k.heap hb (fun hx=>by
  obtain⟨cur,hcx⟩:=ht _ hx;rw[hb] at hcx;simp at hcx)
 have hP3:=hh h.bl;have ks:Keeps (fun k=>k=P) w3 (w3.setCell ⟨P,1,none⟩ (.slice q'.ia m q'.ic)):=Keeps.setCell w3 _ _ rfl;have htP:∀g,g=P->∃cur t fr,w3.heap[g]? =some (.cells cur t fr)∧t≠3:=fun g hg=>⟨_,_,_,hg▸hP3,by decide⟩
 have hk3:∀b,blk a b->∃cur t fr,w1.heap[b]? =some (.cells cur t fr)∧t≠3:=fun b hb=>by
  obtain⟨cur,hc⟩:=ht b hb;exact⟨cur,_,_,hc,by decide⟩
 refine⟨hown.other ks (fun g hg=>⟨_,_,_,hg▸hP3,by decide,by decide⟩),?_,fun x hx=>?_,?_,ks.heap (hh h.hs) (by omega),ks.heap (hh h.hr) (by omega),hP⟩
 ·rw[block_setCell hP3];rfl
 ·rcases hla x hx with h1|h1|h1
  ·exact(h.la x h1).imp id (fun y=>(y.keeps k hk3).keeps ks htP)
  ·exact .inl h1
  ·exact .inr (h1.keeps ks htP)
 ·exact New.keeps (New.keeps h.nw k (fun i hi hb=>by have:=hlo i hb;omega)) ks (fun i hi e=>by omega)
def wu (w:World) (s:Sk) (e:Ending) (w':World):Prop:=∃(a:Option Addr) (c:Nat) (l:List SIt),e= .returned (.agg #[.string s.name,.slice a s.items.length c])∧SkOwn w' w.heap.size ⟨s.name,a,c,l++[wt]⟩∧l.map SIt.bare=s.items.map SIt.bare∧(∀x∈l,LtB w' x.a x.c x.xs)∧New w w'
structure LendedS (w:World) (B:Nat) (s p:Sk):Prop where
 bare:p.bare=s.bare
 ow:SkOwn w B ⟨p.name,p.ia,p.ic,p.items++[wt]⟩
 la:∀x∈p.items,LtB w x.a x.c x.xs
theorem LendedS.at {w:World} {B:Nat} {s p:Sk} (h:LendedS w B s p):SkAt w p:=by
 refine⟨?_,fun x hx=>(h.la x hx).sl⟩;have:=am.of_owns h.ow.io;rw[List.flatMap_append] at this;exact this.left
theorem LendedS.new {w w':World} {B:Nat} {s p:Sk} (h:LendedS w B s p) (k:New w w'):LendedS w' B s p:=⟨h.bare,h.ow.new k,fun x hx=>(h.la x hx).new k⟩
theorem wu.lended {w w':World} {s:Sk} {e:Ending} (h:wu w s e w'):∃p:Sk,e= .returned p.v∧LendedS w' w.heap.size s p∧New w w':=by
 obtain⟨a,c,l,rfl,hown,hl,hla,k⟩:=h;refine⟨⟨s.name,a,c,l⟩,?_,⟨?_,hown,hla⟩,k⟩
 ·simp only[Sk.v,Sk.cs];rw[gg hl]
 ·unfold Sk.bare;simp only[hl]
theorem SBnd.bare {p s:Sk} (h:SBnd s) (e:p.bare=s.bare):SBnd p:=by
 have h1:p.name=s.name:=by have:=congrArg Sk.name e;exact this
 have h2:p.items.map SIt.bare=s.items.map SIt.bare:=by have:=congrArg Sk.items e;exact this
 have hm:∀x∈p.items,∃y∈s.items,y.bare=x.bare:=fun x hx=>by
  have hm:x.bare∈s.items.map SIt.bare:=h2▸List.mem_map_of_mem hx;obtain⟨y,hy,he⟩:=List.mem_map.1 hm;exact⟨y,hy,he⟩
 refine⟨by rw[h1];exact h.n,by rw[gg h2];exact h.i,fun x hx=>?_,fun x hx=>?_⟩
 ·obtain⟨y,hy,he⟩:=hm x hx;have e1:y.name=x.name:=by have:=congrArg SIt.name he;exact this
  have e2:y.tag=x.tag:=by have:=congrArg SIt.tag he;exact this
  have e3:y.fn=x.fn:=by have:=congrArg SIt.fn he;exact this
  have e4:y.tn=x.tn:=by have:=congrArg SIt.tn he;exact this
  have hh:=h.sz y hy;exact⟨e1▸hh.n,e2▸hh.t,e3▸hh.f,e4▸hh.o⟩
 ·obtain⟨y,hy,he⟩:=hm x hx;have e1:y.fp=x.fp:=by have:=congrArg SIt.fp he;exact this
  have e2:y.tp=x.tp:=by have:=congrArg SIt.tp he;exact this
  have e3:y.xs=x.xs:=by have:=congrArg SIt.xs he;exact this
  have hh:=h.bd y hy;exact⟨e1▸hh.p0,e2▸hh.p1,e3▸hh.xs,e3▸hh.ln⟩
theorem iK {w:World} {ops:Array Oper} {o:Oper} {a:Act} {K:Act->World->Prop} {Q:Exit->Act->World->Prop} {E:Prop} {dec:Decidable (Region.wanted o (yielded ops a.tmps)=true)} (hgd:o.guard=none) (sl x:Operand)
  (ho:o.op= .call { callee:= .builtin .append,args:=#[sl,x],argTypes:=#[138,9] })
  (base:Nat) (ab:Option Addr) (cb:Nat) (Bs:List UInt8) (n:Nat) (hs:a.eval sl= .slice ab n cb) (hown:w.ownsRow base 5 1 (.slice ab n cb) n (dA Bs)) (s:ByteArray) (hx:a.eval x= .string s)
  (hb:n+s.size<=140737488355000) (hbase:base<=w.heap.size)
  (h:∀a' c' w',w'.ownsRow base 5 1 (.slice a' (n+s.size) c') (n+s.size) (dA (Bs++s.data.toList))->Keeps (blk ab) w w'->K (a.put o.dst (.slice a' (n+s.size) c')) w'):
  @ite Prop (Region.wanted o (yielded ops a.tmps)=true) dec (Oper.wp Tryz.prog o a w K Q) E:=by
 obtain⟨i0,hi,hz0,hz1,hz2⟩:=info_parts infoByte;have hw:Region.wanted o (yielded ops a.tmps)=true:=by simp[Region.wanted,hgd]
 rw[if_pos hw];obtain⟨v',w',hr,h2,h3,h4⟩:=Lib.run_append_own_string (P:=Tryz.prog) w base 138 9 o.type 5 i0 Tryz.underlying138 Tryz.underlying9 hi hz0 hz1 hz2 (.slice ab n cb) n (dA Bs) hown s (by unfold maxLen;omega) (by omega) hbase;unfold Oper.wp execOp;simp only[ho,resolve,invoke,builtin,Sem.run_bind,Sem.run_pure,Result.andThen_ok,List.map_toArray,List.map_cons,List.map_nil,hs,hx,hr];obtain⟨a',c',rfl⟩:=nk h2;refine h a' c' w' ?_ (Keeps.grown h3 (fun k h=>bH h.symm));unfold dA;rw[List.map_append];exact h2
set_option maxRecDepth 100000 in
set_option maxHeartbeats 4000000 in
theorem lX (w:World) (n:ByteArray) (p a:Int):Calls Tryz.prog 121 #[.agg #[.string n,I p,I a]] w fun e w'=>e= .returned (.bool (de n p))∧New w w':=by
 have nb:New w (w.alloc (.cells #[.string n,I p,I a] 103)):=(New.refl w).alloc _;obtain⟨c0,c1,c2,-,hR⟩:=is (kN w (.string n) (I p) (I a));unfold de bL;cases h1:n.toList.isEmpty with
 |false=>
  go_enter Tryz.func121,Tryz.ntmps121;go_wp2_with fail;go_ret
  exact⟨rfl,nb⟩
 |true=>
  cases h2:(p==0) with
  |false=>
   go_enter Tryz.func121,Tryz.ntmps121;go_wp2_with fail;go_ret
   exact⟨rfl,nb⟩
  |true=>
   go_enter Tryz.func121,Tryz.ntmps121;go_wp2_with fail;go_ret
   exact⟨rfl,nb⟩
theorem eY (n:Int) (h:cW n):(cC n).size<=21:=by
 rw[<-ai];exact(i6 (t:=nT n) (by unfold LTok.right nT;simp) h).1
set_option maxRecDepth 100000 in
set_option maxHeartbeats 4000000 in
theorem iG (w:World) (n:ByteArray) (p a:Int) (hn:n.size<=140737488352232) (hp:cW p):Calls Tryz.prog 122 #[.agg #[.string n,I p,I a]] w fun e w'=>e= .returned (.string ⟨(aD n p).toArray⟩)∧New w w':=by
 have nb:New w (w.alloc (.cells #[.string n,I p,I a] 103)):=(New.refl w).alloc _;obtain⟨c0,c1,c2,-,hR⟩:=is (kN w (.string n) (I p) (I a));have hdg:=fun W=>eT W p hp.1 hp.2
 have hil:=eY p hp;obtain⟨D,hD⟩:∃D,cC p=D:=⟨_,rfl⟩
 rw[hD] at hdg hil;obtain⟨X1,hX1⟩:∃X,n++(⟨#[46]⟩:ByteArray)=X:=⟨_,rfl⟩
 obtain⟨X2,hX2⟩:∃X,X1++D=X:=⟨_,rfl⟩
 have hX:(⟨(aD n p).toArray⟩:ByteArray)=X2:=by
  apply ByteArray.ext;apply Array.toList_inj.1;rw[<-hX2,<-hX1,<-hD];unfold aD cC;simp[ByteArray.data_append]
 rw[hX];have z1:X1.size=n.size+1:=by rw[<-hX1,ByteArray.size_append];rfl
 have add1:∀w:World,(Op.stringOp .add n (⟨#[46]⟩:ByteArray)).run Tryz.prog w= .ok (.string X1) w:=fun w=>by rw[<-hX1];exact run_string_add_sum w _ _ (by show n.size+1<=_;omega)
 have add2:∀w:World,(Op.stringOp .add X1 D).run Tryz.prog w= .ok (.string X2) w:=fun w=>by rw[<-hX2];exact run_string_add_sum w _ _ (by omega)
 clear hD hX1 hX2 hX;go_enter Tryz.func122,Tryz.ntmps122;go_wp2_with fail;generalize w.alloc (.cells #[.string n,I p,I a] 103)=W at*;have hS0:(fun w':World=>w'.cell? ⟨w.heap.size,0,none⟩=some (.string n)∧w'.cell? ⟨w.heap.size,1,none⟩=some (I p)) W.drew:=⟨New.cell (New.refl W).drew c0,New.cell (New.refl W).drew c1⟩
 refine ar (fun w':World=>w'.cell? ⟨w.heap.size,0,none⟩=some (.string n)∧w'.cell? ⟨w.heap.size,1,none⟩=some (I p)) [] (by kernel_rfl) hS0 ?_;refine ae 0 hS0 ?_;refine ae 1 hS0 ?_;refine ae 2 hS0 ?_;refine ae 3 hS0 ?_;refine ae 4 hS0 ?_;refine ah 5 ?_;intro K hK;(try simp only[Act.put,sLs])
 go_simp;refine(hdg _).mono ?_;rintro e w4 ⟨rfl,n4⟩;have hS4:(fun w':World=>w'.cell? ⟨w.heap.size,0,none⟩=some (.string n)∧w'.cell? ⟨w.heap.size,1,none⟩=some (I p)) w4:=⟨New.cell ((New.refl W).drew.trans n4) c0,New.cell ((New.refl W).drew.trans n4) c1⟩
 refine hK _ _ (fun _=>hS4) ?_;clear hK K;refine ae 6 hS4 ?_;refine ae 7 hS4 ?_;refine aB (by kernel_rfl) ?_;(try simp only[Act.put,sLs])
 simp only[Exit.then];go_wp2_with fail;(try go_ret)
 exact⟨rfl,nb.trans ((New.refl W).drew.trans n4)⟩
set_option maxRecDepth 100000 in
set_option maxHeartbeats 8000000 in
theorem o8 (w:World) (x:SIt) (hz:ISz x) (hl:x.xs.length<=9223372036854775807):Calls Tryz.prog 81 #[.agg (itA x)] w fun e w'=>e= .returned (.bool (aP x))∧New w w':=by
 obtain⟨kind,name,tag,sa,sc,xs,fn,fp,fa,tn,tp,ta,at_⟩:=x;have nb:New w (w.alloc (.cells #[.int .u8 kind,.string name,.string tag,.slice sa xs.length sc,.string fn,I fp,I fa,.string tn,I tp,I ta,I at_] ItT)):=(New.refl w).alloc _;obtain⟨⟨c0,c1,c2,c3,c4,c5,c6,c7,c8,c9,c10⟩,-,hX⟩:=aN (heap_alloc_new w (.cells #[.int .u8 kind,.string name,.string tag,.slice sa xs.length sc,.string fn,I fp,I fa,.string tn,I tp,I ta,I at_] ItT));have hnm:=fun W=>dK W name hz.n
 have htg:=fun W=>dK W tag hz.t
 have hfn:=fun W=>dK W fn hz.f
 have htn:=fun W=>dK W tn hz.o
 have hbf:=fun W=>lX W fn fp fa
 have hbt:=fun W=>lX W tn tp ta
 unfold aP;simp only[itA];clear hz;generalize aM name=bn at hnm ⊢;generalize aM tag=bt at htg ⊢;generalize aM fn=bf at hfn ⊢;generalize aM tn=bo at htn ⊢;generalize de fn fp=rf at hbf ⊢;generalize de tn tp=rt at hbt ⊢;obtain⟨n,hn⟩:∃n,xs.length=n:=⟨_,rfl⟩
 simp only[hn] at c0 c1 c2 c3 c4 c5 c6 c7 c8 c9 c10 nb hX hl ⊢;clear hn;obtain⟨em,hem⟩:∃b,bL name=b:=⟨_,rfl⟩
 obtain⟨et,het⟩:∃b,bL tag=b:=⟨_,rfl⟩
 rw[hem,het];unfold bL at hem het;obtain⟨ez,hez⟩:∃b,((n:Int)==0)=b:=⟨_,rfl⟩
 have hez2:(n==0)=ez:=by rw[<-hez];cases n<;>simp<;>omega
 rw[hez2];have HNB:=Lib.hid nb;have hcs:=fun W (k:New (w.alloc (.cells #[.int .u8 kind,.string name,.string tag,.slice sa n sc,.string fn,I fp,I fa,.string tn,I tp,I ta,I at_] ItT)) W)=>And.intro (New.cell k c0) (And.intro (New.cell k c1) (And.intro (New.cell k c2) (And.intro (New.cell k c3) (And.intro (New.cell k c4) (And.intro (New.cell k c5) (And.intro (New.cell k c6) (And.intro (New.cell k c7) (And.intro (New.cell k c8) (New.cell k c9)))))))))
 have HCS:=Lib.hid hcs;obtain⟨PO,hPO⟩:∃PO:Ending->World->Prop,PO=fun e w'=>e= .returned (.bool (if kind=1 then bn&&bt&&rf&&rt else if kind=2 then em&&et&&bf&&bo else if kind=3 then bn&&et&&ez&&rf&&bo else if kind=4 then bn&&et&&ez&&bf&&rt else false))∧New w w':=⟨_,rfl⟩
 rw[<-hPO];have HPO:=Lib.hid hPO;clear hPO nb hcs hez2;go_enter Tryz.func81,Tryz.ntmps81;go_upto_region 1 with(fail)
 have HNX:Hid (New (w.alloc (.cells #[.int .u8 kind,.string name,.string tag,.slice sa n sc,.string fn,I fp,I fa,.string tn,I tp,I ta,I at_] ItT)) (w.alloc (.cells #[.int .u8 kind,.string name,.string tag,.slice sa n sc,.string fn,I fp,I fa,.string tn,I tp,I ta,I at_] ItT))):=Lib.hid (New.refl _);by_cases h1:kind=1
 ·subst h1;cases bn with
  |false=>
   go_wp2_with fail;refine(hnm _).mono ?_;rintro e v1 ⟨rfl,m1⟩;obtain⟨a0,a1,a2,a3,a4,a5,a6,a7,a8,a9⟩:=HCS.out _ (HNX.out.trans m1);go_wp2_with fail;(try go_ret)
   rw[HPO.out];exact⟨by simp,HNB.out.trans (HNX.out.trans m1)⟩
  |true=>
   go_wp2_with fail;refine(hnm _).mono ?_;rintro e v1 ⟨rfl,m1⟩;obtain⟨a0,a1,a2,a3,a4,a5,a6,a7,a8,a9⟩:=HCS.out _ (HNX.out.trans m1);cases bt with
   |false=>
    go_wp2_with fail;refine(htg _).mono ?_;rintro e v2 ⟨rfl,m2⟩;obtain⟨a0,a1,a2,a3,a4,a5,a6,a7,a8,a9⟩:=HCS.out _ ((HNX.out.trans m1).trans m2);go_wp2_with fail;(try go_ret)
    rw[HPO.out];exact⟨by simp,HNB.out.trans ((HNX.out.trans m1).trans m2)⟩
   |true=>
    go_wp2_with fail;refine(htg _).mono ?_;rintro e v2 ⟨rfl,m2⟩;obtain⟨a0,a1,a2,a3,a4,a5,a6,a7,a8,a9⟩:=HCS.out _ ((HNX.out.trans m1).trans m2);cases rf with
    |false=>
     go_wp2_with fail;refine(hbf _).mono ?_;rintro e v3 ⟨rfl,m3⟩;obtain⟨a0,a1,a2,a3,a4,a5,a6,a7,a8,a9⟩:=HCS.out _ (((HNX.out.trans m1).trans m2).trans m3);go_wp2_with fail;(try go_ret)
     rw[HPO.out];exact⟨by simp,HNB.out.trans (((HNX.out.trans m1).trans m2).trans m3)⟩
    |true=>
     go_wp2_with fail;refine(hbf _).mono ?_;rintro e v3 ⟨rfl,m3⟩;obtain⟨a0,a1,a2,a3,a4,a5,a6,a7,a8,a9⟩:=HCS.out _ (((HNX.out.trans m1).trans m2).trans m3);cases rt with
     |false=>
      go_wp2_with fail;refine(hbt _).mono ?_;rintro e v4 ⟨rfl,m4⟩;obtain⟨a0,a1,a2,a3,a4,a5,a6,a7,a8,a9⟩:=HCS.out _ ((((HNX.out.trans m1).trans m2).trans m3).trans m4);go_wp2_with fail;(try go_ret)
      rw[HPO.out];exact⟨by simp,HNB.out.trans ((((HNX.out.trans m1).trans m2).trans m3).trans m4)⟩
     |true=>
      go_wp2_with fail;refine(hbt _).mono ?_;rintro e v4 ⟨rfl,m4⟩;obtain⟨a0,a1,a2,a3,a4,a5,a6,a7,a8,a9⟩:=HCS.out _ ((((HNX.out.trans m1).trans m2).trans m3).trans m4);go_wp2_with fail;(try go_ret)
      rw[HPO.out];exact⟨by simp,HNB.out.trans ((((HNX.out.trans m1).trans m2).trans m3).trans m4)⟩
 ·have d1:(kind==1)=false:=by simpa using h1
  by_cases h2:kind=2
  ·subst h2;cases em with
   |false=>
    go_wp2_with fail;(try go_ret)
    rw[HPO.out];exact⟨by simp,HNB.out.trans HNX.out⟩
   |true=>
    cases et with
    |false=>
     go_wp2_with fail;(try go_ret)
     rw[HPO.out];exact⟨by simp,HNB.out.trans HNX.out⟩
    |true=>
     cases bf with
     |false=>
      go_wp2_with fail;refine(hfn _).mono ?_;rintro e v1 ⟨rfl,m1⟩;obtain⟨a0,a1,a2,a3,a4,a5,a6,a7,a8,a9⟩:=HCS.out _ (HNX.out.trans m1);go_wp2_with fail;(try go_ret)
      rw[HPO.out];exact⟨by simp,HNB.out.trans (HNX.out.trans m1)⟩
     |true=>
      go_wp2_with fail;refine(hfn _).mono ?_;rintro e v1 ⟨rfl,m1⟩;obtain⟨a0,a1,a2,a3,a4,a5,a6,a7,a8,a9⟩:=HCS.out _ (HNX.out.trans m1);cases bo with
      |false=>
       go_wp2_with fail;refine(htn _).mono ?_;rintro e v2 ⟨rfl,m2⟩;obtain⟨a0,a1,a2,a3,a4,a5,a6,a7,a8,a9⟩:=HCS.out _ ((HNX.out.trans m1).trans m2);go_wp2_with fail;(try go_ret)
       rw[HPO.out];exact⟨by simp,HNB.out.trans ((HNX.out.trans m1).trans m2)⟩
      |true=>
       go_wp2_with fail;refine(htn _).mono ?_;rintro e v2 ⟨rfl,m2⟩;obtain⟨a0,a1,a2,a3,a4,a5,a6,a7,a8,a9⟩:=HCS.out _ ((HNX.out.trans m1).trans m2);go_wp2_with fail;(try go_ret)
       rw[HPO.out];exact⟨by simp,HNB.out.trans ((HNX.out.trans m1).trans m2)⟩
  ·have d2:(kind==2)=false:=by simpa using h2
   by_cases h3:kind=3
   ·subst h3;cases bn with
    |false=>
     go_wp2_with fail;refine(hnm _).mono ?_;rintro e v1 ⟨rfl,m1⟩;obtain⟨a0,a1,a2,a3,a4,a5,a6,a7,a8,a9⟩:=HCS.out _ (HNX.out.trans m1);go_wp2_with fail;(try go_ret)
     rw[HPO.out];exact⟨by simp,HNB.out.trans (HNX.out.trans m1)⟩
    |true=>
     go_wp2_with fail;refine(hnm _).mono ?_;rintro e v1 ⟨rfl,m1⟩;obtain⟨a0,a1,a2,a3,a4,a5,a6,a7,a8,a9⟩:=HCS.out _ (HNX.out.trans m1);cases et with
     |false=>
      go_wp2_with fail;(try go_ret)
      rw[HPO.out];exact⟨by simp,HNB.out.trans (HNX.out.trans m1)⟩
     |true=>
      cases ez with
      |false=>
       go_wp2_with fail;(try go_ret)
       rw[HPO.out];exact⟨by simp,HNB.out.trans (HNX.out.trans m1)⟩
      |true=>
       cases rf with
       |false=>
        go_wp2_with fail;refine(hbf _).mono ?_;rintro e v2 ⟨rfl,m2⟩;obtain⟨a0,a1,a2,a3,a4,a5,a6,a7,a8,a9⟩:=HCS.out _ ((HNX.out.trans m1).trans m2);go_wp2_with fail;(try go_ret)
        rw[HPO.out];exact⟨by simp,HNB.out.trans ((HNX.out.trans m1).trans m2)⟩
       |true=>
        go_wp2_with fail;refine(hbf _).mono ?_;rintro e v2 ⟨rfl,m2⟩;obtain⟨a0,a1,a2,a3,a4,a5,a6,a7,a8,a9⟩:=HCS.out _ ((HNX.out.trans m1).trans m2);cases bo with
        |false=>
         go_wp2_with fail;refine(htn _).mono ?_;rintro e v3 ⟨rfl,m3⟩;obtain⟨a0,a1,a2,a3,a4,a5,a6,a7,a8,a9⟩:=HCS.out _ (((HNX.out.trans m1).trans m2).trans m3);go_wp2_with fail;(try go_ret)
         rw[HPO.out];exact⟨by simp,HNB.out.trans (((HNX.out.trans m1).trans m2).trans m3)⟩
        |true=>
         go_wp2_with fail;refine(htn _).mono ?_;rintro e v3 ⟨rfl,m3⟩;obtain⟨a0,a1,a2,a3,a4,a5,a6,a7,a8,a9⟩:=HCS.out _ (((HNX.out.trans m1).trans m2).trans m3);go_wp2_with fail;(try go_ret)
         rw[HPO.out];exact⟨by simp,HNB.out.trans (((HNX.out.trans m1).trans m2).trans m3)⟩
   ·have d3:(kind==3)=false:=by simpa using h3
    by_cases h4:kind=4
    ·subst h4;cases bn with
     |false=>
      go_wp2_with fail;refine(hnm _).mono ?_;rintro e v1 ⟨rfl,m1⟩;obtain⟨a0,a1,a2,a3,a4,a5,a6,a7,a8,a9⟩:=HCS.out _ (HNX.out.trans m1);go_wp2_with fail;(try go_ret)
      rw[HPO.out];exact⟨by simp,HNB.out.trans (HNX.out.trans m1)⟩
     |true=>
      go_wp2_with fail;refine(hnm _).mono ?_;rintro e v1 ⟨rfl,m1⟩;obtain⟨a0,a1,a2,a3,a4,a5,a6,a7,a8,a9⟩:=HCS.out _ (HNX.out.trans m1);cases et with
      |false=>
       go_wp2_with fail;(try go_ret)
       rw[HPO.out];exact⟨by simp,HNB.out.trans (HNX.out.trans m1)⟩
      |true=>
       cases ez with
       |false=>
        go_wp2_with fail;(try go_ret)
        rw[HPO.out];exact⟨by simp,HNB.out.trans (HNX.out.trans m1)⟩
       |true=>
        cases rt with
        |false=>
         go_wp2_with fail;refine(hbt _).mono ?_;rintro e v2 ⟨rfl,m2⟩;obtain⟨a0,a1,a2,a3,a4,a5,a6,a7,a8,a9⟩:=HCS.out _ ((HNX.out.trans m1).trans m2);go_wp2_with fail;(try go_ret)
         rw[HPO.out];exact⟨by simp,HNB.out.trans ((HNX.out.trans m1).trans m2)⟩
        |true=>
         go_wp2_with fail;refine(hbt _).mono ?_;rintro e v2 ⟨rfl,m2⟩;obtain⟨a0,a1,a2,a3,a4,a5,a6,a7,a8,a9⟩:=HCS.out _ ((HNX.out.trans m1).trans m2);cases bf with
         |false=>
          go_wp2_with fail;refine(hfn _).mono ?_;rintro e v3 ⟨rfl,m3⟩;obtain⟨a0,a1,a2,a3,a4,a5,a6,a7,a8,a9⟩:=HCS.out _ (((HNX.out.trans m1).trans m2).trans m3);go_wp2_with fail;(try go_ret)
          rw[HPO.out];exact⟨by simp,HNB.out.trans (((HNX.out.trans m1).trans m2).trans m3)⟩
         |true=>
          go_wp2_with fail;refine(hfn _).mono ?_;rintro e v3 ⟨rfl,m3⟩;obtain⟨a0,a1,a2,a3,a4,a5,a6,a7,a8,a9⟩:=HCS.out _ (((HNX.out.trans m1).trans m2).trans m3);go_wp2_with fail;(try go_ret)
          rw[HPO.out];exact⟨by simp,HNB.out.trans (((HNX.out.trans m1).trans m2).trans m3)⟩
    ·have d4:(kind==4)=false:=by simpa using h4
     have HH:=Lib.hid (And.intro h1 (And.intro h2 (And.intro h3 h4)));clear h1 h2 h3 h4;go_wp2_with fail;(try go_ret)
     rw[HPO.out];obtain⟨h1,h2,h3,h4⟩:=HH.out;exact⟨by simp[h1,h2,h3,h4],HNB.out.trans HNX.out⟩
end Go.Proofs.YtnedmonlofbahaaGreatDoor
