/-
  SkS, SkH, SkE: what is wanted of them.
-/
import Derived.Test.YtnedmonlofbahaaGreatDoorBs
import Derived.Deep.DeepCutAuto
import Derived.Deep.CutBlock
import Derived.BigRegion
namespace Go.Proofs.YtnedmonlofbahaaGreatDoor
open Go Go.RowKit Go.Joins
set_option linter.all false
theorem aL {w:World} {B e size n:Nat} {v:Value} {xs:List Value} (h:w.ownsRow B e size v n xs) {k:Nat} (hk:v.ownBlock=some k):∃cur,w.heap[k]? =some (.cells cur e (0,0)):=by
 rcases h.2 with⟨h0,h1⟩|⟨g,cap,cur,rfl,hb,hg,rest⟩
 ·rw[h0] at hk;simp[Value.ownBlock] at hk
 ·simp[Value.ownBlock] at hk;subst hk;exact⟨cur,hg⟩
theorem aV {a:Option Addr} {n c k:Nat} (h:blk a k):(Value.slice a n c).ownBlock=some k:=by
 obtain⟨x,rfl,rfl⟩:=h;rfl
theorem qV {α:Type} {f:α->List Value} {n:Nat} (hf:∀x,(f x).length=n) (hn:0<n) {w:World} {ao:Option Addr} {l:List α} (h:ar w ao (l.flatMap f)) {i:Nat} (hi:i<l.length):
  ∃b off,ao=some ⟨b,off,none⟩∧∀j,j<n->w.cell? ⟨b,off+i*n+j,none⟩=(f l[i])[j]? :=by
 have hl:=rF f n hf l;have hlt:∀j,j<n->i*n+j<l.length*n:=fun j hj=>by
  have:(i+1)*n<=l.length*n:=Nat.mul_le_mul_right n hi;rw[Nat.add_mul,Nat.one_mul] at this;omega
 obtain⟨b,off,e,_⟩:=h (i*n) (by have:=hlt 0 hn;omega);refine⟨b,off,e,fun j hj=>?_⟩;obtain⟨b',nD,e',c⟩:=h.at (i:=i*n+j) (by rw[hl];exact hlt j hj);rw[e] at e';simp only[Option.some.injEq,Addr.mk.injEq,and_true] at e';obtain⟨rfl,rfl⟩:=e';rw[Nat.add_assoc,c,<-uF f n hf l i j hi hj];exact(List.getElem?_eq_getElem _).symm
structure SIt where
 kind:Int
 name:ByteArray
 tag:ByteArray
 a:Option Addr
 c:Nat
 xs:List Int
 fn:ByteArray
 fp:Int
 fa:Int
 tn:ByteArray
 tp:Int
 ta:Int
 at_:Int
structure Sk where
 name:ByteArray
 ia:Option Addr
 ic:Nat
 items:List SIt
def SIt.bare (x:SIt):SIt:= { x with a:=none,c:=0 }
def Sk.bare (s:Sk):Sk:=⟨s.name,none,0,s.items.map SIt.bare⟩
def br (x:SIt):List Value:=[.int .u8 x.kind,.string x.name,.string x.tag,.slice x.a x.xs.length x.c,.string x.fn,I x.fp,I x.fa,.string x.tn,I x.tp,I x.ta,I x.at_]
abbrev Sk.cs (s:Sk):Array Value:=#[.string s.name,.slice s.ia s.items.length s.ic]
abbrev Sk.v (s:Sk):Value:= .agg s.cs
structure SkAt (w:World) (s:Sk):Prop where
 sl:ar w s.ia (s.items.flatMap br)
 nx:∀x∈s.items,ar w x.a (Is x.xs)
theorem SkAt.new {w w':World} {s:Sk} (h:SkAt w s) (k:New w w'):SkAt w' s:=⟨h.sl.new k,fun x hx=>(h.nx x hx).new k⟩
structure SLen (s:Sk):Prop where
 i:s.items.length<=9223372036854775807
 n:s.name.size<=9223372036854775807
 ix:∀x∈s.items,x.xs.length<=9223372036854775807∧x.name.size<=9223372036854775807∧x.tag.size<=9223372036854775807∧x.fn.size<=9223372036854775807∧x.tn.size<=9223372036854775807
theorem yI {w:World} {ao:Option Addr} {l:List SIt} (h:ar w ao (l.flatMap br)) {i:Nat} (hi:i<l.length):
  ∃b off,ao=some ⟨b,off,none⟩∧∀j,j<11->w.cell? ⟨b,off+i*11+j,none⟩=(br l[i])[j]? :=qV (n:=11) (fun _=>rfl) (by decide) h hi
structure SkOwn (w:World) (B:Nat) (s:Sk):Prop where
 io:w.ownsRow B 105 11 (.slice s.ia s.items.length s.ic) s.items.length (s.items.flatMap br)
 nx:∀x∈s.items,bc w B x.a x.c x.xs
 ap:(s.items.map (·.a)).Pairwise (fun a b=>∀k,blk a k->¬blk b k)
theorem SkOwn.at {w:World} {B:Nat} {s:Sk} (h:SkOwn w B s):SkAt w s:=⟨ar.of_owns h.io,fun x hx=>(h.nx x hx).sl⟩
theorem SkOwn.new {w w':World} {B:Nat} {s:Sk} (h:SkOwn w B s) (k:New w w'):SkOwn w' B s:=⟨k.owns h.io,fun x hx=>(h.nx x hx).new k,h.ap⟩
structure SkB (w:World) (B P:Nat) (s:Sk):Prop where
 blkP:w.heap[P]? =some (.cells s.cs 52 (0,0))
 own:SkOwn w B s
theorem SkB.new {w w':World} {B P:Nat} {s:Sk} (h:SkB w B P s) (k:New w w'):SkB w' B P s:=⟨Keeps.heap k h.blkP (fun h=>h),h.own.new k⟩
theorem al {S:Nat->Prop} {w w':World} {B e size n:Nat} {v:Value} {xs:List Value} (h:w.ownsRow B e size v n xs) (k:Keeps S w w') (hS:∀g,S g->∃cur t fr,w.heap[g]? =some (.cells cur t fr)∧t≠e):w'.ownsRow B e size v n xs:=
 k.owns h (fun g hg hs=>by
  obtain⟨c1,h1⟩:=aL h hg;obtain⟨c2,t,fr,h2,hne⟩:=hS g hs;rw[h1] at h2;cases h2;exact hne rfl)
theorem SkB.add {w1 w2 w3:World} {B P:Nat} {s:Sk} (h:SkB w1 B P s) (x:SIt) (hx:bc w2 B x.a x.c x.xs) (hd:∀k,blk x.a k->w1.heap.size<=k) (k12:New w1 w2)
  {a':Option Addr} {c':Nat} (ho:w3.ownsRow B 105 11 (.slice a' (s.items.length+1) c') (s.items.length+1) (s.items.flatMap br++br x)) (hk:Keeps (blk s.ia) w2 w3):
  (w3.cell? ⟨P,1,none⟩=some (.slice s.ia s.items.length s.ic)∧w3.frozen? ⟨P,1,none⟩=false∧P<w3.heap.size)∧
  SkB (w3.setCell ⟨P,1,none⟩ (.slice a' (s.items.length+1) c')) B P { s with ia:=a',ic:=c',items:=s.items++[x] } ∧Keeps (fun k=>k=P∨blk s.ia k) w1 (w3.setCell ⟨P,1,none⟩ (.slice a' (s.items.length+1) c')):=by
 have h2:=h.new k12;have cw:∀g,blk s.ia g->∃cur,w2.heap[g]? =some (.cells cur 105 (0,0)):=fun g hg=>aL h2.own.io (aV hg)
 have hto:∀e:TypeId,105≠e->∀g,blk s.ia g->∃cur t fr,w2.heap[g]? =some (.cells cur t fr)∧t≠e:=fun e he g hg=>by
  obtain⟨cur,hc⟩:=cw g hg;exact⟨cur,_,_,hc,he⟩
 have hP3:=hk.heap h2.blkP (fun hb=>by obtain⟨cur,hc⟩:=cw _ hb;rw[h2.blkP] at hc;simp at hc);have hP4:=block_setCell (i:=1) hP3 (.slice a' (s.items.length+1) c');have hks:Keeps (fun k=>k=P) w3 (w3.setCell ⟨P,1,none⟩ (.slice a' (s.items.length+1) c')):=Keeps.setCell w3 _ _ rfl;have htP:∀e:TypeId,52≠e->∀g,g=P->∃cur t fr,w3.heap[g]? =some (.cells cur t fr)∧t≠e:=fun e he g hg=>⟨_,_,_,hg▸hP3,he⟩
 refine⟨⟨?_,unfrozen_of_block hP3 1,(Array.getElem?_eq_some_iff.1 hP3).1⟩,⟨?_,?_,?_,?_⟩,?_⟩
 ·rw[cell_of_block hP3 1];rfl
 ·rw[hP4];simp
 ·have:=al ho hks (htP _ (by decide));simpa using this
 ·intro y hy;rcases List.mem_append.1 hy with hy|hy
  ·exact al (al (h2.own.nx y hy) hk (hto _ (by decide))) hks (htP _ (by decide))
  ·rw[List.mem_singleton.1 hy];exact al (al hx hk (hto _ (by decide))) hks (htP _ (by decide))
 ·simp only[List.map_append,List.map_cons,List.map_nil];rw[List.pairwise_append];refine⟨h.own.ap,List.pairwise_singleton _ _,fun b hb c hc=>?_⟩;rw[List.mem_singleton.1 hc];intro k hk1 hk2;obtain⟨y,hy,rfl⟩:=List.mem_map.1 hb;have h3:=(ai (h.own.nx y hy) hk1).2;have h4:=hd k hk2;omega
 ·exact((Keeps.mono k12 (fun _ _ h=>h.elim)).trans hk (fun i _ hb=> .inr hb)).trans hks (fun i _ hb=> .inl hb)
theorem SkB.news {w0 w1 w':World} {B P:Nat} {s:Sk} (h:SkB w1 B P s) (hB:B=w0.heap.size) (hP:w0.heap.size<=P) (hN:New w0 w1) (k:Keeps (fun k=>k=P∨blk s.ia k) w1 w'):New w0 w':=
 New.keeps hN k (fun i hi hb=>by
  rcases hb with rfl|hb
  ·omega
  ·have:=(ai h.own.io hb).1;omega)
theorem lu (x:SIt):∀u∈br x,u.oneCell'=true:=by
 intro u hu;simp only[br,List.mem_cons,List.not_mem_nil,or_false] at hu;rcases hu with rfl|rfl|rfl|rfl|rfl|rfl|rfl|rfl|rfl|rfl|rfl<;>rfl
theorem oA:(Tryz.prog.info? 105).map (fun i=>(i.zero,i.size,i.bytes))=some (some (.agg #[.int .u8 0,.string ⟨#[]⟩,.string ⟨#[]⟩,.slice none 0 0,.string ⟨#[]⟩,.int .i64 0,.int .i64 0,.string ⟨#[]⟩,.int .i64 0,.int .i64 0,.int .i64 0]),11,136):=by kernel_rfl
abbrev itA (x:SIt):Array Value:=#[.int .u8 x.kind,.string x.name,.string x.tag,.slice x.a x.xs.length x.c,.string x.fn,I x.fp,I x.fa,.string x.tn,I x.tp,I x.ta,I x.at_]
theorem fQ {w:World} {C:Nat} {x:SIt} (h:w.heap[C]? =some (.cells (itA x) 105 (0,0))):
  (w.cell? ⟨C,0,none⟩=some (.int .u8 x.kind)∧w.cell? ⟨C,1,none⟩=some (.string x.name)∧w.cell? ⟨C,2,none⟩=some (.string x.tag)∧w.cell? ⟨C,3,none⟩=some (.slice x.a x.xs.length x.c)∧w.cell? ⟨C,4,none⟩=some (.string x.fn)∧w.cell? ⟨C,5,none⟩=some (I x.fp)∧
  w.cell? ⟨C,6,none⟩=some (I x.fa)∧w.cell? ⟨C,7,none⟩=some (.string x.tn)∧w.cell? ⟨C,8,none⟩=some (I x.tp)∧w.cell? ⟨C,9,none⟩=some (I x.ta)∧w.cell? ⟨C,10,none⟩=some (I x.at_))∧C<w.heap.size:=by
 refine⟨⟨?_,?_,?_,?_,?_,?_,?_,?_,?_,?_,?_⟩,(Array.getElem?_eq_some_iff.1 h).1⟩;all_goals rw[cell_of_block h];rfl
theorem eu {w:World} {ao:Option Addr} {l:List SIt} (h:ar w ao (l.flatMap br)) {i:Nat} (hi:i<l.length):
  ∃b off,ao=some ⟨b,off,none⟩∧w.cell? ⟨b,off+i*11,none⟩=some (.int .u8 l[i].kind)∧w.cell? ⟨b,off+i*11+1,none⟩=some (.string l[i].name)∧w.cell? ⟨b,off+i*11+2,none⟩=some (.string l[i].tag)∧w.cell? ⟨b,off+i*11+3,none⟩=some (.slice l[i].a l[i].xs.length l[i].c)∧
   w.cell? ⟨b,off+i*11+4,none⟩=some (.string l[i].fn)∧w.cell? ⟨b,off+i*11+5,none⟩=some (I l[i].fp)∧w.cell? ⟨b,off+i*11+6,none⟩=some (I l[i].fa)∧w.cell? ⟨b,off+i*11+7,none⟩=some (.string l[i].tn)∧w.cell? ⟨b,off+i*11+8,none⟩=some (I l[i].tp)∧w.cell? ⟨b,off+i*11+9,none⟩=some (I l[i].ta)∧w.cell? ⟨b,off+i*11+10,none⟩=some (I l[i].at_):=by
 obtain⟨b,off,e,k⟩:=yI h hi;exact⟨b,off,e,k 0 (by decide),k 1 (by decide),k 2 (by decide),k 3 (by decide),k 4 (by decide),k 5 (by decide),k 6 (by decide),k 7 (by decide),k 8 (by decide),k 9 (by decide),k 10 (by decide)⟩
theorem yQ {α β:Type} {f:α->β} {l m:List α} (h:l.map f=m.map f) (k:Nat) (hk:k<l.length) (hm:k<m.length):f l[k]=f m[k]:=by
 have h1:(l.map f)[k]? =(m.map f)[k]? :=by rw[h]
 simpa[hk,hm] using h1
theorem nG {α β:Type} {f:α->β} {l m:List α} (h:l.map f=m.map f):l.length=m.length:=by
 have:=congrArg List.length h;simpa using this
section
variable {P:Program} {ops:Array Oper} {Q:Exit->Act->World->Prop} {md:Region.Mode} {S:World->Prop} {X:Nat->Bool}
theorem re (i j:Nat) {eJ:Nat} {l:Array Bool} {a:Act} {w:World} (hr:Region.ready md ops l=[i,j])
  (hi:∀oi,ops[i]? =some oi->∀K:Act->World->Prop,(∀a' w',(X i=false->S w')->dY P md ops Q S X eJ (l.setIfInBounds i true) a' w'->K a' w')->if Region.wanted oi (yielded ops a.tmps)=true then Oper.wp P oi a w K Q else K (a.put oi.dst undef) w)
  (hj:∀oi,ops[j]? =some oi->∀K:Act->World->Prop,(∀a' w',(X j=false->S w')->dY P md ops Q S X eJ (l.setIfInBounds j true) a' w'->K a' w')->if Region.wanted oi (yielded ops a.tmps)=true then Oper.wp P oi a w K Q else K (a.put oi.dst undef) w):
  dY P md ops Q S X (eJ+1) l a w:=by
 refine⟨fun h0=>(by rw[h0] at hr;cases hr),fun k hk=>?_⟩;obtain⟨_,o,ho,_⟩:=mem_ready.1 hk;rw[hr] at hk;rcases List.mem_cons.1 hk with rfl|hk
 ·exact wpOp_step ho (fun K' hK=>hi o ho K' (fun a' w' h1 h2=>hK _ _ ⟨h1,h2⟩))
 ·obtain rfl:=List.mem_singleton.1 hk;exact wpOp_step ho (fun K' hK=>hj o ho K' (fun a' w' h1 h2=>hK _ _ ⟨h1,h2⟩))
end
theorem cS {P:Program} {w:World} {ops:Array Oper} {o:Oper} {a:Act} {K:Act->World->Prop} {Q:Exit->Act->World->Prop} {E:Prop} {dec:Decidable (Region.wanted o (yielded ops a.tmps)=true)} (hgd:o.guard=none) (s x:Operand) (t:TypeId)
  (ho:o.op= .call { callee:= .builtin .append,args:=#[s,x],argTypes:=#[t,t] })
  (base:Nat) (e:TypeId) (i:TypeInfo) (z:Value) (size bytes:Nat) (ht:P.underlying t=some (.slice e)) (hi:P.info? e=some i) (hz:i.zero=some z)
  (rQ:i.size=size) (hby:i.bytes=bytes) (hzs:z.cells.size=size) (hsz:0<size)
  (ao:Option Addr) (n c:Nat) (xs:List Value) (hs:a.eval s= .slice ao n c) (aK:w.ownsRow base e size (.slice ao n c) n xs)
  (ad:Option Addr) (m cc:Nat) (news:List Value) (hx:a.eval x= .slice ad m cc) (hl:news.length=m*size) (hat:ar w ad news) (h1:∀u∈news,u.oneCell'=true)
  (h63:n+m<=maxLen) (mx:(n+m)*bytes<=140737488355328) (kS:base<=w.heap.size)
  (h:∀ao' c' w',w'.ownsRow base e size (.slice ao' (n+m) c') (n+m) (xs++news)->Keeps (blk ao) w w'->dS w ao ao'->K (a.put o.dst (.slice ao' (n+m) c')) w'):
  @ite Prop (Region.wanted o (yielded ops a.tmps)=true) dec (Oper.wp P o a w K Q) E:=by
 have hw:Region.wanted o (yielded ops a.tmps)=true:=by simp[Region.wanted,hgd]
 rw[if_pos hw];obtain⟨ao',c',w',hr,h2,h3,h4,_⟩:=uX (P:=P) w base t o.type e i z size bytes ht hi hz rQ hby hzs hsz ao n c xs aK ad m cc news hl hat h1 h63 mx kS;unfold Oper.wp execOp;simp only[ho,resolve,invoke,builtin,Sem.run_bind,Sem.run_pure,Result.andThen_ok,List.map_toArray,List.map_cons,List.map_nil,hs,hx,hr];exact h ao' c' w' h2 h3 h4
end Go.Proofs.YtnedmonlofbahaaGreatDoor
