/-
  SkD, SkE: what is wanted of them.
-/
import Derived.Test.YtnedmonlofbahaaGreatDoorSwB
import Derived.BigRegion
namespace Go.Proofs.YtnedmonlofbahaaGreatDoor
open Go Go.RowKit Go.Joins
set_option linter.all false
def er (w:World) (G:Nat) (l:List LTok) (a:Option Addr) (c:Nat) (res:PR LIt) (e:Ending) (w':World):Prop:=match res with
 | .bad j=>rM w G l j e w'
 | .good x k=>∃ao co,e= .returned (.agg (itA (x.mem ao co)))∧bp w' w.heap.size ao co x.xs∧PAt w' G l a c k∧Keeps (fun b=>b=G) w w'
theorem jk {w:World} {R:Nat} {x0 x1 x2 x3 x4 x5 x6 x7 x8 x9 x10:Value} (h:w.heap[R]? =some (.cells #[x0,x1,x2,x3,x4,x5,x6,x7,x8,x9,x10] ItT (0,0))) (u0 u1 u2 u3 u4 u5 u6 u7 u8 u9 u10:Value):
  (((((((((((w.setCell ⟨R,0,none⟩ u0).setCell ⟨R,1,none⟩ u1).setCell ⟨R,2,none⟩ u2).setCell ⟨R,3,none⟩ u3).setCell ⟨R,4,none⟩ u4).setCell ⟨R,5,none⟩ u5).setCell ⟨R,6,none⟩ u6).setCell ⟨R,7,none⟩ u7).setCell ⟨R,8,none⟩ u8).setCell ⟨R,9,none⟩ u9).setCell ⟨R,10,none⟩ u10).heap[R]? =some (.cells #[u0,u1,u2,u3,u4,u5,u6,u7,u8,u9,u10] ItT (0,0))∧
  Keeps (fun k=>k=R) w (((((((((((w.setCell ⟨R,0,none⟩ u0).setCell ⟨R,1,none⟩ u1).setCell ⟨R,2,none⟩ u2).setCell ⟨R,3,none⟩ u3).setCell ⟨R,4,none⟩ u4).setCell ⟨R,5,none⟩ u5).setCell ⟨R,6,none⟩ u6).setCell ⟨R,7,none⟩ u7).setCell ⟨R,8,none⟩ u8).setCell ⟨R,9,none⟩ u9).setCell ⟨R,10,none⟩ u10):=by
 have h0:=block_setCell (i:=0) h u0;have h1:=block_setCell (i:=1) h0 u1;have h2:=block_setCell (i:=2) h1 u2;have h3:=block_setCell (i:=3) h2 u3;have h4:=block_setCell (i:=4) h3 u4;have h5:=block_setCell (i:=5) h4 u5;have h6:=block_setCell (i:=6) h5 u6;have h7:=block_setCell (i:=7) h6 u7;have h8:=block_setCell (i:=8) h7 u8;have h9:=block_setCell (i:=9) h8 u9;have h10:=block_setCell (i:=10) h9 u10;refine⟨by rw[h10];simp,?_⟩;have t:∀(W:World) (i:Nat) (v:Value),Keeps (fun k=>k=R) w W->Keeps (fun k=>k=R) w (W.setCell ⟨R,i,none⟩ v):=fun W i v hW=>hW.trans (Keeps.setCell (S:=fun k=>k=R) W ⟨R,i,none⟩ v rfl) (fun _ _ h=>h)
 exact t _ _ _ (t _ _ _ (t _ _ _ (t _ _ _ (t _ _ _ (t _ _ _ (t _ _ _ (t _ _ _ (t _ _ _ (t _ _ _ (t _ _ _ (Keeps.refl _ w)))))))))))
theorem dR.edge {l:List LTok} (h:dR l) {k m at_:Nat} {x:LIt} (hp:eM at_ l k= .good x m):m<l.length∧k<m:=by
 unfold eM at hp;obtain⟨n,k1,h1,hp⟩:=PR.bind_inv hp;obtain⟨_,k2,h2,hp⟩:=PR.bind_inv hp;obtain⟨g,k3,h3,hp⟩:=PR.bind_inv hp;obtain⟨xs,k4,h4,hp⟩:=PR.bind_inv hp;cases hp
 have a:=h.place h1;have b:=h.must h2 (by decide);have c:=h.place h3;have d:=h.withP c.1 h4;exact⟨d.1,by omega⟩
theorem eV {l:List LTok} {k:Nat} {so:Int} {tx:List UInt8} {nu:Int} {at_:Nat} (h:l[k]? =some ⟨so,tx,nu,at_⟩):bU l k=(if so=1∧tx=fI then eO at_ l (k+1) else if so=1∧tx=hZ then eM at_ l (k+1) else if so=1∧tx=inW then inP at_ l (k+1) else if so=1∧tx=ls then jH at_ l (k+1) else .bad k).bind fun x k1=>(bW 3 [59] l k1).bind fun _ k2=> .good x k2:=by
 unfold bU fM;rw[h]
theorem fo {T:ByteArray} {tx b:List UInt8} (h:T.toList=b ↔ tx=b) (hn:tx≠b):(T.toList==b)=false:=by
 cases hh:(T.toList==b) with
 |false=>rfl
 |true=>exact absurd (h.1 (by simpa using hh)) hn
theorem jA {T:ByteArray} {tx b:List UInt8} (h:T.toList=b ↔ tx=b) (hn:tx=b):(T.toList==b)=true:=by simp[h.2 hn]
theorem ItS.fin {w W0 w':World} {G X:Nat} (n:New w W0) (h:Keeps (fun b=>b=G∨b=X) W0 w') (hX:w.heap.size<=X):Keeps (fun b=>b=G) w w':=
 (Keeps.mono n (fun _ _ h=>h.elim)).trans h (fun i hi hs=>by rcases hs with hs|hs;exact hs;omega)
theorem ItS.here {w0:World} {G X:Nat} {l:List LTok} {a:Option Addr} {c k:Nat} {cs:Array Value} {wr:World} (h:ItS w0 G X l a c k cs wr):ItS wr G X l a c k cs wr:=⟨h.p,h.b,Keeps.refl _ _,h.ne,h.na⟩
theorem bp.base {w:World} {B B':Nat} {a:Option Addr} {c:Nat} {xs:List Int} (h:bp w B a c xs) (hb:B'<=B):bp w B' a c xs:=dD h (fun k hk=>by have:=(an h (bH hk)).1;omega)
theorem bp.it {w w':World} {B X:Nat} {a:Option Addr} {c:Nat} {xs:List Int} (h:bp w B a c xs) {cs:Array Value} {e:TypeId} (hb:w.heap[X]? =some (.cells cs e (0,0))) (he:e≠3) (k:Keeps (fun b=>b=X) w w'):bp w' B a c xs:=
 au h k (fun g hg=>⟨_,_,_,hg▸hb,he⟩)
set_option maxRecDepth 100000 in
set_option maxHeartbeats 8000000 in
theorem oV (w:World) (G:Nat) (l:List LTok) (a:Option Addr) (c k:Nat) (he:dR l) (h:PAt w G l a c k) (so:Int) (tx:List UInt8) (nu:Int) (at_:Nat) (hg:l[k]? =some ⟨so,tx,nu,at_⟩) (hs:so≠1):
  Calls Tryz.prog 52 #[.pointer (some ⟨G,0,none⟩)] w (er w G l a c (bU l k)):=by
 have hk:k<l.length:=(List.getElem?_eq_some_iff.1 hg).1;have hle:=h.le;have hGw:=h.lt;have HOB:Hid (∀g,blk a g->g<w.heap.size):=Lib.hid (fun g hg=>h.old (by omega) hg);have HIP:=Lib.hid (eV hg);have HNX:=Lib.hid (he.next hg);obtain⟨res,hre⟩:∃r,bU l k=r:=⟨_,rfl⟩
 rw[hre];have HRES:=Lib.hid hre;clear hre;obtain⟨T,hT⟩:∃T:ByteArray,(⟨tx.toArray⟩:ByteArray)=T:=⟨_,rfl⟩
 have n0:New w (w.alloc (.cells #[.int .u8 0,.string ⟨#[]⟩,.string ⟨#[]⟩,.slice none 0 0,.string ⟨#[]⟩,I 0,I 0,.string ⟨#[]⟩,I 0,I 0,I 0] ItT)):=(New.refl w).alloc _;have hbR:(w.alloc (.cells #[.int .u8 0,.string ⟨#[]⟩,.string ⟨#[]⟩,.slice none 0 0,.string ⟨#[]⟩,I 0,I 0,.string ⟨#[]⟩,I 0,I 0,I 0] ItT)).heap[w.heap.size]? =some (.cells #[.int .u8 0,.string ⟨#[]⟩,.string ⟨#[]⟩,.slice none 0 0,.string ⟨#[]⟩,I 0,I 0,.string ⟨#[]⟩,I 0,I 0,I 0] ItT (0,0)):=heap_alloc_new w _;have hnx:=cw _ G l a c k (h.new n0) hk _ hg;simp only[f5,hT] at hnx;have H:=Lib.hid h;have HBR:=Lib.hid hbR;have HN0:=Lib.hid n0;have htx:=fun b=>fw tx b
 rw[hT] at htx;have d1:(so != 1)=true:=by simpa using hs
 have HRW:Hid (bU l k= .bad k):=Lib.hid (by rw[HIP.out,if_neg (fun h=>hs h.1),if_neg (fun h=>hs h.1),if_neg (fun h=>hs h.1),if_neg (fun h=>hs h.1)];rfl);clear h hT hbR n0 htx hs hg;go_enter Tryz.func52,Tryz.ntmps52;go_wp2_with fail;refine hnx.mono ?_;rintro e w1 ⟨rfl,n1⟩;have n2:New w1 (w1.alloc (.cells #[.int .u8 so,.string T,I nu,I (at_:Int)] 98)):=(New.refl w1).alloc _;have hbF:=eG w1 (.int .u8 so) (.string T) (I nu) (I (at_:Int));obtain⟨p0,p1,p2,p3,-,hp⟩:=dM hbF;have N2:=Lib.hid ((HN0.out.trans n1).trans n2);have hs1:w.heap.size<w1.heap.size:=by have:=n1.size;simp at this;omega
 have hwr:=fU _ G l a c k (H.out.new N2.out) hk;clear n1 n2 hbF hnx p1 p2 p3;go_wp2_with fail;refine hwr.mono ?_;rintro e w3 ⟨rfl,n3⟩;go_wp2
 refine bm rfl ?_;rw[<-HRES.out,HRW.out];exact⟨rfl,KN (N2.out.trans n3)⟩
set_option maxRecDepth 100000 in
set_option maxHeartbeats 8000000 in
theorem nz (w:World) (G:Nat) (l:List LTok) (a:Option Addr) (c k:Nat) (he:dR l) (h:PAt w G l a c k) (tx:List UInt8) (nu:Int) (at_:Nat) (hg:l[k]? =some ⟨1,tx,nu,at_⟩) (n_actor:tx≠fI) (n_edge:tx≠hZ) (n_in:tx≠inW) (n_out:tx≠ls):
  Calls Tryz.prog 52 #[.pointer (some ⟨G,0,none⟩)] w (er w G l a c (bU l k)):=by
 have hk:k<l.length:=(List.getElem?_eq_some_iff.1 hg).1;have hle:=h.le;have hGw:=h.lt;have HOB:Hid (∀g,blk a g->g<w.heap.size):=Lib.hid (fun g hg=>h.old (by omega) hg);have HIP:=Lib.hid (eV hg);have HNX:=Lib.hid (he.next hg);obtain⟨res,hre⟩:∃r,bU l k=r:=⟨_,rfl⟩
 rw[hre];have HRES:=Lib.hid hre;clear hre;obtain⟨T,hT⟩:∃T:ByteArray,(⟨tx.toArray⟩:ByteArray)=T:=⟨_,rfl⟩
 have n0:New w (w.alloc (.cells #[.int .u8 0,.string ⟨#[]⟩,.string ⟨#[]⟩,.slice none 0 0,.string ⟨#[]⟩,I 0,I 0,.string ⟨#[]⟩,I 0,I 0,I 0] ItT)):=(New.refl w).alloc _;have hbR:(w.alloc (.cells #[.int .u8 0,.string ⟨#[]⟩,.string ⟨#[]⟩,.slice none 0 0,.string ⟨#[]⟩,I 0,I 0,.string ⟨#[]⟩,I 0,I 0,I 0] ItT)).heap[w.heap.size]? =some (.cells #[.int .u8 0,.string ⟨#[]⟩,.string ⟨#[]⟩,.slice none 0 0,.string ⟨#[]⟩,I 0,I 0,.string ⟨#[]⟩,I 0,I 0,I 0] ItT (0,0)):=heap_alloc_new w _;have hnx:=cw _ G l a c k (h.new n0) hk _ hg;simp only[f5,hT] at hnx;have H:=Lib.hid h;have HBR:=Lib.hid hbR;have HN0:=Lib.hid n0;have htx:=fun b=>fw tx b
 rw[hT] at htx;have t_actor:=fo (htx [97,99,116,111,114]) n_actor;have t_edge:=fo (htx [101,100,103,101]) n_edge;have t_in:=fo (htx [105,110]) n_in;have t_out:=fo (htx [111,117,116]) n_out;have d1:((1:Int) != 1)=false:=by decide
 have HRW:Hid (bU l k= .bad k):=Lib.hid (by rw[HIP.out,if_neg (fun h=>n_actor h.2),if_neg (fun h=>n_edge h.2),if_neg (fun h=>n_in h.2),if_neg (fun h=>n_out h.2)];rfl);clear h hT hbR n0 htx hg n_actor n_edge n_in n_out;go_enter Tryz.func52,Tryz.ntmps52;go_wp2_with fail;refine hnx.mono ?_;rintro e w1 ⟨rfl,n1⟩;have n2:New w1 (w1.alloc (.cells #[.int .u8 1,.string T,I nu,I (at_:Int)] 98)):=(New.refl w1).alloc _;have hbF:=eG w1 (.int .u8 1) (.string T) (I nu) (I (at_:Int));obtain⟨p0,p1,p2,p3,-,hp⟩:=dM hbF;have N2:=Lib.hid ((HN0.out.trans n1).trans n2);have hs1:w.heap.size<w1.heap.size:=by have:=n1.size;simp at this;omega
 have hIS:ItS ((w1.alloc (.cells #[.int .u8 1,.string T,I nu,I (at_:Int)] 98)).alloc (.cells (cg at_) ItT)) G (w1.heap.size+1) l a c k (cg at_) ((w1.alloc (.cells #[.int .u8 1,.string T,I nu,I (at_:Int)] 98)).alloc (.cells (cg at_) ItT)):=
  ⟨H.out.new (N2.out.alloc _),by have:=heap_alloc_new (w1.alloc (.cells #[.int .u8 1,.string T,I nu,I (at_:Int)] 98)) (.cells (cg at_) ItT);simpa using this,Keeps.refl _ _,by omega,fun h=>by have:=HOB.out _ h;omega⟩
 have hRb:((w1.alloc (.cells #[.int .u8 1,.string T,I nu,I (at_:Int)] 98)).alloc (.cells (cg at_) ItT)).heap[w.heap.size]? =some (.cells #[.int .u8 0,.string ⟨#[]⟩,.string ⟨#[]⟩,.slice none 0 0,.string ⟨#[]⟩,I 0,I 0,.string ⟨#[]⟩,I 0,I 0,I 0] ItT (0,0)):=Keeps.heap ((n1.trans n2).alloc _) HBR.out (fun h=>h);have HRB:=Lib.hid hRb;have NW:=Lib.hid (N2.out.alloc (.cells (cg at_) ItT));have hXw:w.heap.size<=w1.heap.size+1:=by omega
 clear hRb n1 n2 hbF hnx;have hwr:=fU _ G l a c k hIS.p hk;clear hIS;go_wp2_with fail;refine hwr.mono ?_;rintro e w3 ⟨rfl,n3⟩;go_wp2
 refine bm rfl ?_;rw[<-HRES.out,HRW.out];exact⟨rfl,KN (NW.out.trans n3)⟩
set_option maxRecDepth 100000 in
set_option maxHeartbeats 8000000 in
theorem ny (w:World) (G:Nat) (l:List LTok) (a:Option Addr) (c k:Nat) (he:dR l) (h:PAt w G l a c k) (tx:List UInt8) (nu:Int) (at_:Nat) (hg:l[k]? =some ⟨1,tx,nu,at_⟩) (hw:tx=fI):
  Calls Tryz.prog 52 #[.pointer (some ⟨G,0,none⟩)] w (er w G l a c (bU l k)):=by
 have hk:k<l.length:=(List.getElem?_eq_some_iff.1 hg).1;have hle:=h.le;have hGw:=h.lt;have HOB:Hid (∀g,blk a g->g<w.heap.size):=Lib.hid (fun g hg=>h.old (by omega) hg);have HIP:=Lib.hid (eV hg);have HNX:=Lib.hid (he.next hg);obtain⟨res,hre⟩:∃r,bU l k=r:=⟨_,rfl⟩
 rw[hre];have HRES:=Lib.hid hre;clear hre;obtain⟨T,hT⟩:∃T:ByteArray,(⟨tx.toArray⟩:ByteArray)=T:=⟨_,rfl⟩
 have n0:New w (w.alloc (.cells #[.int .u8 0,.string ⟨#[]⟩,.string ⟨#[]⟩,.slice none 0 0,.string ⟨#[]⟩,I 0,I 0,.string ⟨#[]⟩,I 0,I 0,I 0] ItT)):=(New.refl w).alloc _;have hbR:(w.alloc (.cells #[.int .u8 0,.string ⟨#[]⟩,.string ⟨#[]⟩,.slice none 0 0,.string ⟨#[]⟩,I 0,I 0,.string ⟨#[]⟩,I 0,I 0,I 0] ItT)).heap[w.heap.size]? =some (.cells #[.int .u8 0,.string ⟨#[]⟩,.string ⟨#[]⟩,.slice none 0 0,.string ⟨#[]⟩,I 0,I 0,.string ⟨#[]⟩,I 0,I 0,I 0] ItT (0,0)):=heap_alloc_new w _;have hnx:=cw _ G l a c k (h.new n0) hk _ hg;simp only[f5,hT] at hnx;have H:=Lib.hid h;have HBR:=Lib.hid hbR;have HN0:=Lib.hid n0;have htx:=fun b=>fw tx b
 rw[hT] at htx;have t_actor:=jA (htx [97,99,116,111,114]) hw;have d1:((1:Int) != 1)=false:=by decide
 have HRW:Hid (bU l k=(eO at_ l (k+1)).bind fun x k1=>(bW 3 [59] l k1).bind fun _ k2=> .good x k2):=Lib.hid (by rw[HIP.out,if_pos ⟨rfl,hw⟩]);have hk1:k+1<l.length:=HNX.out (by show(1:Int)≠0;decide);clear h hT hbR n0 htx hg hw;go_enter Tryz.func52,Tryz.ntmps52;go_wp2_with fail;refine hnx.mono ?_;rintro e w1 ⟨rfl,n1⟩;have n2:New w1 (w1.alloc (.cells #[.int .u8 1,.string T,I nu,I (at_:Int)] 98)):=(New.refl w1).alloc _;have hbF:=eG w1 (.int .u8 1) (.string T) (I nu) (I (at_:Int));obtain⟨p0,p1,p2,p3,-,hp⟩:=dM hbF;have N2:=Lib.hid ((HN0.out.trans n1).trans n2);have hs1:w.heap.size<w1.heap.size:=by have:=n1.size;simp at this;omega
 have hIS:ItS ((w1.alloc (.cells #[.int .u8 1,.string T,I nu,I (at_:Int)] 98)).alloc (.cells (cg at_) ItT)) G (w1.heap.size+1) l a c k (cg at_) ((w1.alloc (.cells #[.int .u8 1,.string T,I nu,I (at_:Int)] 98)).alloc (.cells (cg at_) ItT)):=
  ⟨H.out.new (N2.out.alloc _),by have:=heap_alloc_new (w1.alloc (.cells #[.int .u8 1,.string T,I nu,I (at_:Int)] 98)) (.cells (cg at_) ItT);simpa using this,Keeps.refl _ _,by omega,fun h=>by have:=HOB.out _ h;omega⟩
 have hRb:((w1.alloc (.cells #[.int .u8 1,.string T,I nu,I (at_:Int)] 98)).alloc (.cells (cg at_) ItT)).heap[w.heap.size]? =some (.cells #[.int .u8 0,.string ⟨#[]⟩,.string ⟨#[]⟩,.slice none 0 0,.string ⟨#[]⟩,I 0,I 0,.string ⟨#[]⟩,I 0,I 0,I 0] ItT (0,0)):=Keeps.heap ((n1.trans n2).alloc _) HBR.out (fun h=>h);have HRB:=Lib.hid hRb;have NW:=Lib.hid (N2.out.alloc (.cells (cg at_) ItT));have hXw:w.heap.size<=w1.heap.size+1:=by omega
 clear hRb n1 n2 hbF hnx;have hGX:G≠w1.heap.size+1:=by omega
 have hXG:w1.heap.size+1≠G:=by omega
 have hGF:G≠w1.heap.size:=by omega
 have hFG:w1.heap.size≠G:=by omega
 obtain⟨-,c1,z1,hG⟩:=hIS.p.cells;have hw1:IntKind.i64.wrap ((k:Int)+1)=(k:Int)+1:=IntWalk.i64_in _ (by omega);have e4:((k+1:Nat):Int)=(k:Int)+1:=by omega
 obtain⟨⟨y0,-,-,-,-,-,-,-,-,-,-⟩,z,hX⟩:=aN hIS.b;have x0:=z 0;clear z;have hq0:=(hIS.go (k+1)).set 0 (.int .u8 1);rw[e4] at hq0;simp only[cg,sLs] at hq0;have H1:=Lib.hid hq0;clear hq0 hIS e4;have hcon:=dr _ G l a c (k+1) 1 H1.out.p hk1;go_wp2_with fail;refine hcon.mono ?_;intro e w2 hq;clear hcon;rcases hq.inv with⟨j,hr,rfl,kb⟩|⟨t,k2,hr,rfl,hpp,kk⟩
 ·clear hq;go_wp2
  refine bm rfl ?_;rw[<-HRES.out,HRW.out];unfold eO;rw[hr,PR.bind_bad,PR.bind_bad];exact⟨rfl,ItS.fin NW.out (H1.out.bad kb) hXw⟩
 have HR1:=Lib.hid hr;have hk2:=(he.take hr (by decide)).1;have hcall:=H1.out.call hpp kk;clear hq hr hpp kk H1;have hb:=hcall.b;obtain⟨so1,tx1,nu1,ta1⟩:=t;obtain⟨T1,hT1⟩:∃T:ByteArray,(⟨tx1.toArray⟩:ByteArray)=T:=⟨_,rfl⟩
 simp only[f5,hT1];have HT1:=Lib.hid hT1;have f1:=fun W=>(cS (.int .u8 so1) (.string T1) (I nu1) (I (ta1:Int)) W).2.1
 clear hT1;obtain⟨⟨-,y1,-,-,-,-,-,-,-,-,-⟩,z,hX⟩:=aN hb;have x1:=z 1;clear z;have hq0:=hcall.set 1 (.string T1);(try simp only[cg,sLs] at hq0)
 have H2:=Lib.hid hq0;clear hq0 hcall hb;have hcon:=dc _ G l a c k2 [61] H2.out.p hk2;go_wp2_with fail;refine hcon.mono ?_;intro e w3 hq;clear hcon;rcases hq.inv with⟨j,hr,rfl,kb⟩|⟨u,k3,hr,rfl,hpp,kk⟩
 ·clear hq;go_wp2
  refine bm rfl ?_;rw[<-HRES.out,HRW.out];unfold eO;rw[HR1.out,PR.bind_good,hr,PR.bind_bad,PR.bind_bad];exact⟨rfl,ItS.fin NW.out (H2.out.bad kb) hXw⟩
 have HR2:=Lib.hid hr;have hk3:=(he.must hr (by decide)).1;have hcall:=H2.out.call hpp kk;clear hq hr hpp kk H2;have hb:=hcall.b;have hq0:=hcall;(try simp only[cg,sLs] at hq0)
 have H3:=Lib.hid hq0;clear hq0 hcall hb;have hcon:=dr _ G l a c k3 1 H3.out.p hk3;go_wp2_with fail;refine hcon.mono ?_;intro e w4 hq;clear hcon;rcases hq.inv with⟨j,hr,rfl,kb⟩|⟨t,k4,hr,rfl,hpp,kk⟩
 ·clear hq;go_wp2
  refine bm rfl ?_;rw[<-HRES.out,HRW.out];unfold eO;rw[HR1.out,PR.bind_good,HR2.out,PR.bind_good,hr,PR.bind_bad,PR.bind_bad];exact⟨rfl,ItS.fin NW.out (H3.out.bad kb) hXw⟩
 have HR3:=Lib.hid hr;have hk4:=(he.take hr (by decide)).1;have hcall:=H3.out.call hpp kk;clear hq hr hpp kk H3;have hb:=hcall.b;obtain⟨so3,tx3,nu3,ta3⟩:=t;obtain⟨T3,hT3⟩:∃T:ByteArray,(⟨tx3.toArray⟩:ByteArray)=T:=⟨_,rfl⟩
 simp only[f5,hT3];have HT3:=Lib.hid hT3;have f1:=fun W=>(cS (.int .u8 so3) (.string T3) (I nu3) (I (ta3:Int)) W).2.1
 clear hT3;obtain⟨⟨-,-,y2,-,-,-,-,-,-,-,-⟩,z,hX⟩:=aN hb;have x2:=z 2;clear z;have hq0:=hcall.set 2 (.string T3);(try simp only[cg,sLs] at hq0)
 have H4:=Lib.hid hq0;clear hq0 hcall hb;have hcon:=lS _ G l a c k4 he H4.out.p hk4;go_wp2_with fail;refine hcon.mono ?_;rintro e w5 ⟨ao,co,rfl,ho,hpp,kk⟩;clear hcon;have hlx:=he.nums hk4;obtain⟨L,hL⟩:∃L,db l k4=L:=⟨_,rfl⟩
 rw[hL] at ho hpp hlx ⊢;have HR4:Hid (numsP l k4= .good L (k4+L.length)):=Lib.hid (by unfold numsP;rw[hL]);have HOX:=Lib.hid (ho.base (B':=w.heap.size) (by have hz:=H4.out.ks.size;simp at hz ⊢;omega));obtain⟨N,hN⟩:∃N,L.length=N:=⟨_,rfl⟩
 have HN:=Lib.hid hN;have hcall:=H4.out.call hpp kk;rw[hN] at hcall hlx;rw[hN];clear hL ho hpp kk hN H4;have hb:=hcall.b;obtain⟨⟨-,-,-,y3,-,-,-,-,-,-,-⟩,z,hX⟩:=aN hb;have x3:=z 3;clear z;have hq0:=hcall.set 3 (.slice ao N co);have hox:=HOX.out.it hb (by decide) (Keeps.setCell _ ⟨w1.heap.size+1,3,none⟩ (.slice ao N co) rfl);clear HOX;have HOX:=Lib.hid hox;clear hox;(try simp only[cg,sLs] at hq0)
 have H5:=Lib.hid hq0;clear hq0 hcall hb;have hcon:=dc _ G l a c (k4+N) [59] H5.out.p hlx;go_wp2_with fail;refine hcon.mono ?_;intro e w6 hq;clear hcon;rcases hq.inv with⟨j,hr,rfl,kb⟩|⟨u,k6,hr,rfl,hpp,kk⟩
 ·clear hq;go_wp2
  refine bm rfl ?_;rw[<-HRES.out,HRW.out];unfold eO;rw[HR1.out,PR.bind_good,HR2.out,PR.bind_good,HR3.out,PR.bind_good,HR4.out,PR.bind_good,PR.bind_good,HN.out,hr,PR.bind_bad];exact⟨rfl,ItS.fin NW.out (H5.out.bad kb) hXw⟩
 have HR5:=Lib.hid hr;have hk6:=(he.must hr (by decide)).1;have hcall:=H5.out.call hpp kk;have hox:bp _ w.heap.size ao co _:=au HOX.out kk (fun g hg=>⟨_,_,_,hg▸H5.out.p.bk,by decide⟩);clear HOX;have HOX:=Lib.hid hox;clear hox;clear hq hr hpp kk H5;have hb:=hcall.b;have hq0:=hcall;(try simp only[cg,sLs] at hq0)
 have H6:=Lib.hid hq0;clear hq0 hcall hb;have hb:=H6.out.b;obtain⟨⟨y0,y1,y2,y3,y4,y5,y6,y7,y8,y9,y10⟩,-,hX⟩:=aN hb;have hbR:=H6.out.ks.heap HRB.out (fun h=>by rcases h with h|h<;>omega);obtain⟨⟨r0,r1,r2,r3,r4,r5,r6,r7,r8,r9,r10⟩,z,hR⟩:=aN hbR;have x0:=z 0;have x1:=z 1;have x2:=z 2;have x3:=z 3;have x4:=z 4;have x5:=z 5;have x6:=z 6;have x7:=z 7;have x8:=z 8;have x9:=z 9;have x10:=z 10;have hst:=jk hbR (.int .u8 1) (.string T1) (.string T3) (.slice ao N co) (.string ⟨#[]⟩) (I 0) (I 0) (.string ⟨#[]⟩) (I 0) (I 0) (I (at_:Int));have hPf:=H6.out.p.keeps hst.2 (fun h=>by omega) (fun g hg h=>by have:=HOB.out g hg;omega);have hKf:=(ItS.fin NW.out H6.out.ks hXw).trans hst.2 (fun i hi h=>by omega);have hOf:=HOX.out.it hbR (by decide) hst.2;have hbf:=hst.1;have HFF:=Lib.hid hbf;have HFP:=Lib.hid (And.intro hPf (And.intro hKf hOf));clear hst hPf hKf hbf hb hbR z H6 hOf;go_wp2_with fail;have hbf:=HFF.out;have hff:=HFP.out;clear HFF HFP y0 y1 y2 y3 y4 y5 y6 y7 y8 y9 y10 r0 r1 r2 r3 r4 r5 r6 r7 r8 r9 r10 x0 x1 x2 x3 x4 x5 x6 x7 x8 x9 x10;generalize(((((((((((w6.setCell ⟨w.heap.size,0,none⟩ (.int .u8 1)).setCell ⟨w.heap.size,1,none⟩ (.string T1)).setCell ⟨w.heap.size,2,none⟩ (.string T3)).setCell ⟨w.heap.size,3,none⟩ (.slice ao N co)).setCell ⟨w.heap.size,4,none⟩ (.string ⟨#[]⟩)).setCell ⟨w.heap.size,5,none⟩ (I 0)).setCell ⟨w.heap.size,6,none⟩ (I 0)).setCell ⟨w.heap.size,7,none⟩ (.string ⟨#[]⟩)).setCell ⟨w.heap.size,8,none⟩ (I 0)).setCell ⟨w.heap.size,9,none⟩ (I 0)).setCell ⟨w.heap.size,10,none⟩ (I (at_:Int)))=Wf at hbf hff ⊢;obtain⟨⟨r0,r1,r2,r3,r4,r5,r6,r7,r8,r9,r10⟩,-,-⟩:=aN hbf;refine bodyPost_ret (v:= .agg #[.int .u8 1,.string T1,.string T3,.slice ao N co,.string ⟨#[]⟩,I 0,I 0,.string ⟨#[]⟩,I 0,I 0,I (at_:Int)]) (by simp[results,Tryz.results52,go_sem,r0,r1,r2,r3,r4,r5,r6,r7,r8,r9,r10]) rfl ?_;rw[<-HRES.out,HRW.out];unfold eO;rw[HR1.out,PR.bind_good,HR2.out,PR.bind_good,HR3.out,PR.bind_good,HR4.out,PR.bind_good,PR.bind_good,HN.out,HR5.out,PR.bind_good];obtain rfl:=HT1.out;obtain rfl:=HT3.out;obtain rfl:=HN.out;have h9:bp Wf w.heap.size ao co L:=hff.2.2;have h8:=hff.1;have h7:=hff.2.1;clear hff;simp only[er];exact⟨ao,co,rfl,h9,h8,h7⟩
set_option maxRecDepth 100000 in
set_option maxHeartbeats 8000000 in
theorem sQ (w:World) (G:Nat) (l:List LTok) (a:Option Addr) (c k:Nat) (he:dR l) (h:PAt w G l a c k) (tx:List UInt8) (nu:Int) (at_:Nat) (hg:l[k]? =some ⟨1,tx,nu,at_⟩) (hw:tx=inW):
  Calls Tryz.prog 52 #[.pointer (some ⟨G,0,none⟩)] w (er w G l a c (bU l k)):=by
 have hk:k<l.length:=(List.getElem?_eq_some_iff.1 hg).1;have hle:=h.le;have hGw:=h.lt;have HOB:Hid (∀g,blk a g->g<w.heap.size):=Lib.hid (fun g hg=>h.old (by omega) hg);have HIP:=Lib.hid (eV hg);have HNX:=Lib.hid (he.next hg);obtain⟨res,hre⟩:∃r,bU l k=r:=⟨_,rfl⟩
 rw[hre];have HRES:=Lib.hid hre;clear hre;obtain⟨T,hT⟩:∃T:ByteArray,(⟨tx.toArray⟩:ByteArray)=T:=⟨_,rfl⟩
 have n0:New w (w.alloc (.cells #[.int .u8 0,.string ⟨#[]⟩,.string ⟨#[]⟩,.slice none 0 0,.string ⟨#[]⟩,I 0,I 0,.string ⟨#[]⟩,I 0,I 0,I 0] ItT)):=(New.refl w).alloc _;have hbR:(w.alloc (.cells #[.int .u8 0,.string ⟨#[]⟩,.string ⟨#[]⟩,.slice none 0 0,.string ⟨#[]⟩,I 0,I 0,.string ⟨#[]⟩,I 0,I 0,I 0] ItT)).heap[w.heap.size]? =some (.cells #[.int .u8 0,.string ⟨#[]⟩,.string ⟨#[]⟩,.slice none 0 0,.string ⟨#[]⟩,I 0,I 0,.string ⟨#[]⟩,I 0,I 0,I 0] ItT (0,0)):=heap_alloc_new w _;have hnx:=cw _ G l a c k (h.new n0) hk _ hg;simp only[f5,hT] at hnx;have H:=Lib.hid h;have HBR:=Lib.hid hbR;have HN0:=Lib.hid n0;have htx:=fun b=>fw tx b
 rw[hT] at htx;have t_actor:=fo (htx [97,99,116,111,114]) (by rw[hw];decide);have t_edge:=fo (htx [101,100,103,101]) (by rw[hw];decide);have t_in:=jA (htx [105,110]) hw;have d1:((1:Int) != 1)=false:=by decide
 have HRW:Hid (bU l k=(inP at_ l (k+1)).bind fun x k1=>(bW 3 [59] l k1).bind fun _ k2=> .good x k2):=Lib.hid (by rw[HIP.out,if_neg (fun h=>absurd (hw.symm.trans h.2) (by decide)),if_neg (fun h=>absurd (hw.symm.trans h.2) (by decide)),if_pos ⟨rfl,hw⟩]);have hk1:k+1<l.length:=HNX.out (by show(1:Int)≠0;decide);clear h hT hbR n0 htx hg hw;go_enter Tryz.func52,Tryz.ntmps52;go_wp2_with fail;refine hnx.mono ?_;rintro e w1 ⟨rfl,n1⟩;have n2:New w1 (w1.alloc (.cells #[.int .u8 1,.string T,I nu,I (at_:Int)] 98)):=(New.refl w1).alloc _;have hbF:=eG w1 (.int .u8 1) (.string T) (I nu) (I (at_:Int));obtain⟨p0,p1,p2,p3,-,hp⟩:=dM hbF;have N2:=Lib.hid ((HN0.out.trans n1).trans n2);have hs1:w.heap.size<w1.heap.size:=by have:=n1.size;simp at this;omega
 have hIS:ItS ((w1.alloc (.cells #[.int .u8 1,.string T,I nu,I (at_:Int)] 98)).alloc (.cells (cg at_) ItT)) G (w1.heap.size+1) l a c k (cg at_) ((w1.alloc (.cells #[.int .u8 1,.string T,I nu,I (at_:Int)] 98)).alloc (.cells (cg at_) ItT)):=
  ⟨H.out.new (N2.out.alloc _),by have:=heap_alloc_new (w1.alloc (.cells #[.int .u8 1,.string T,I nu,I (at_:Int)] 98)) (.cells (cg at_) ItT);simpa using this,Keeps.refl _ _,by omega,fun h=>by have:=HOB.out _ h;omega⟩
 have hRb:((w1.alloc (.cells #[.int .u8 1,.string T,I nu,I (at_:Int)] 98)).alloc (.cells (cg at_) ItT)).heap[w.heap.size]? =some (.cells #[.int .u8 0,.string ⟨#[]⟩,.string ⟨#[]⟩,.slice none 0 0,.string ⟨#[]⟩,I 0,I 0,.string ⟨#[]⟩,I 0,I 0,I 0] ItT (0,0)):=Keeps.heap ((n1.trans n2).alloc _) HBR.out (fun h=>h);have HRB:=Lib.hid hRb;have NW:=Lib.hid (N2.out.alloc (.cells (cg at_) ItT));have hXw:w.heap.size<=w1.heap.size+1:=by omega
 clear hRb n1 n2 hbF hnx;have hGX:G≠w1.heap.size+1:=by omega
 have hXG:w1.heap.size+1≠G:=by omega
 have hGF:G≠w1.heap.size:=by omega
 have hFG:w1.heap.size≠G:=by omega
 obtain⟨-,c1,z1,hG⟩:=hIS.p.cells;have hw1:IntKind.i64.wrap ((k:Int)+1)=(k:Int)+1:=IntWalk.i64_in _ (by omega);have e4:((k+1:Nat):Int)=(k:Int)+1:=by omega
 obtain⟨⟨y0,-,-,-,-,-,-,-,-,-,-⟩,z,hX⟩:=aN hIS.b;have x0:=z 0;clear z;have hq0:=(hIS.go (k+1)).set 0 (.int .u8 3);rw[e4] at hq0;simp only[cg,sLs] at hq0;have H1:=Lib.hid hq0;clear hq0 hIS e4;have hcon:=dr _ G l a c (k+1) 1 H1.out.p hk1;go_wp2_with fail;refine hcon.mono ?_;intro e w2 hq;clear hcon;rcases hq.inv with⟨j,hr,rfl,kb⟩|⟨t,k2,hr,rfl,hpp,kk⟩
 ·clear hq;go_wp2
  refine bm rfl ?_;rw[<-HRES.out,HRW.out];unfold inP;rw[hr,PR.bind_bad,PR.bind_bad];exact⟨rfl,ItS.fin NW.out (H1.out.bad kb) hXw⟩
 have HR1:=Lib.hid hr;have hk2:=(he.take hr (by decide)).1;have hcall:=H1.out.call hpp kk;clear hq hr hpp kk H1;have hb:=hcall.b;obtain⟨so1,tx1,nu1,ta1⟩:=t;obtain⟨T1,hT1⟩:∃T:ByteArray,(⟨tx1.toArray⟩:ByteArray)=T:=⟨_,rfl⟩
 simp only[f5,hT1];have HT1:=Lib.hid hT1;have f1:=fun W=>(cS (.int .u8 so1) (.string T1) (I nu1) (I (ta1:Int)) W).2.1
 clear hT1;obtain⟨⟨-,y1,-,-,-,-,-,-,-,-,-⟩,z,hX⟩:=aN hb;have x1:=z 1;clear z;have hq0:=hcall.set 1 (.string T1);(try simp only[cg,sLs] at hq0)
 have H2:=Lib.hid hq0;clear hq0 hcall hb;have hcon:=dc _ G l a c k2 [45,62] H2.out.p hk2;go_wp2_with fail;refine hcon.mono ?_;intro e w3 hq;clear hcon;rcases hq.inv with⟨j,hr,rfl,kb⟩|⟨u,k3,hr,rfl,hpp,kk⟩
 ·clear hq;go_wp2
  refine bm rfl ?_;rw[<-HRES.out,HRW.out];unfold inP;rw[HR1.out,PR.bind_good,hr,PR.bind_bad,PR.bind_bad];exact⟨rfl,ItS.fin NW.out (H2.out.bad kb) hXw⟩
 have HR2:=Lib.hid hr;have hk3:=(he.must hr (by decide)).1;have hcall:=H2.out.call hpp kk;clear hq hr hpp kk H2;have hb:=hcall.b;have hq0:=hcall;(try simp only[cg,sLs] at hq0)
 have H3:=Lib.hid hq0;clear hq0 hcall hb;have hcon:=gX _ G l a c k3 he H3.out.p hk3;go_wp2_with fail;refine hcon.mono ?_;intro e w4 hq;clear hcon;rcases hq.inv with⟨j,hr,rfl,kb⟩|⟨t,k4,hr,rfl,hpp,kk⟩
 ·clear hq;go_wp2
  refine bm rfl ?_;rw[<-HRES.out,HRW.out];unfold inP;rw[HR1.out,PR.bind_good,HR2.out,PR.bind_good,hr,PR.bind_bad,PR.bind_bad];exact⟨rfl,ItS.fin NW.out (H3.out.bad kb) hXw⟩
 have HR3:=Lib.hid hr;have hk4:=(he.place hr).1;have hcall:=H3.out.call hpp kk;clear hq hr hpp kk H3;have hb:=hcall.b;obtain⟨pn3,pp3,pa3⟩:=t;obtain⟨⟨-,-,-,-,-,-,-,y7,y8,y9,-⟩,z,hX⟩:=aN hb;have x7:=z 7;have x8:=z 8;have x9:=z 9;clear z;have hq0:=((hcall.set 7 (.string ⟨pn3.toArray⟩)).set 8 (I pp3)).set 9 (I (pa3:Int));(try simp only[cg,sLs] at hq0)
 have H4:=Lib.hid hq0;clear hq0 hcall hb;have hcon:=dc _ G l a c k4 [59] H4.out.p hk4;go_wp2_with fail;refine hcon.mono ?_;intro e w5 hq;clear hcon;rcases hq.inv with⟨j,hr,rfl,kb⟩|⟨u,k5,hr,rfl,hpp,kk⟩
 ·clear hq;go_wp2
  refine bm rfl ?_;rw[<-HRES.out,HRW.out];unfold inP;rw[HR1.out,PR.bind_good,HR2.out,PR.bind_good,HR3.out,PR.bind_good,PR.bind_good,hr,PR.bind_bad];exact⟨rfl,ItS.fin NW.out (H4.out.bad kb) hXw⟩
 have HR4:=Lib.hid hr;have hk5:=(he.must hr (by decide)).1;have hcall:=H4.out.call hpp kk;clear hq hr hpp kk H4;have hb:=hcall.b;have hq0:=hcall;(try simp only[cg,sLs] at hq0)
 have H5:=Lib.hid hq0;clear hq0 hcall hb;have hb:=H5.out.b;obtain⟨⟨y0,y1,y2,y3,y4,y5,y6,y7,y8,y9,y10⟩,-,hX⟩:=aN hb;have hbR:=H5.out.ks.heap HRB.out (fun h=>by rcases h with h|h<;>omega);obtain⟨⟨r0,r1,r2,r3,r4,r5,r6,r7,r8,r9,r10⟩,z,hR⟩:=aN hbR;have x0:=z 0;have x1:=z 1;have x2:=z 2;have x3:=z 3;have x4:=z 4;have x5:=z 5;have x6:=z 6;have x7:=z 7;have x8:=z 8;have x9:=z 9;have x10:=z 10;have hst:=jk hbR (.int .u8 3) (.string T1) (.string ⟨#[]⟩) (.slice none 0 0) (.string ⟨#[]⟩) (I 0) (I 0) (.string ⟨pn3.toArray⟩) (I pp3) (I (pa3:Int)) (I (at_:Int));have hPf:=H5.out.p.keeps hst.2 (fun h=>by omega) (fun g hg h=>by have:=HOB.out g hg;omega);have hKf:=(ItS.fin NW.out H5.out.ks hXw).trans hst.2 (fun i hi h=>by omega);have hbf:=hst.1;have HFF:=Lib.hid hbf;have HFP:=Lib.hid (And.intro hPf hKf);clear hst hPf hKf hbf hb hbR z H5;go_wp2_with fail;have hbf:=HFF.out;have hff:=HFP.out;clear HFF HFP y0 y1 y2 y3 y4 y5 y6 y7 y8 y9 y10 r0 r1 r2 r3 r4 r5 r6 r7 r8 r9 r10 x0 x1 x2 x3 x4 x5 x6 x7 x8 x9 x10;generalize(((((((((((w5.setCell ⟨w.heap.size,0,none⟩ (.int .u8 3)).setCell ⟨w.heap.size,1,none⟩ (.string T1)).setCell ⟨w.heap.size,2,none⟩ (.string ⟨#[]⟩)).setCell ⟨w.heap.size,3,none⟩ (.slice none 0 0)).setCell ⟨w.heap.size,4,none⟩ (.string ⟨#[]⟩)).setCell ⟨w.heap.size,5,none⟩ (I 0)).setCell ⟨w.heap.size,6,none⟩ (I 0)).setCell ⟨w.heap.size,7,none⟩ (.string ⟨pn3.toArray⟩)).setCell ⟨w.heap.size,8,none⟩ (I pp3)).setCell ⟨w.heap.size,9,none⟩ (I (pa3:Int))).setCell ⟨w.heap.size,10,none⟩ (I (at_:Int)))=Wf at hbf hff ⊢;obtain⟨⟨r0,r1,r2,r3,r4,r5,r6,r7,r8,r9,r10⟩,-,-⟩:=aN hbf;refine bodyPost_ret (v:= .agg #[.int .u8 3,.string T1,.string ⟨#[]⟩,.slice none 0 0,.string ⟨#[]⟩,I 0,I 0,.string ⟨pn3.toArray⟩,I pp3,I (pa3:Int),I (at_:Int)]) (by simp[results,Tryz.results52,go_sem,r0,r1,r2,r3,r4,r5,r6,r7,r8,r9,r10]) rfl ?_;rw[<-HRES.out,HRW.out];unfold inP;rw[HR1.out,PR.bind_good,HR2.out,PR.bind_good,HR3.out,PR.bind_good,PR.bind_good,HR4.out,PR.bind_good];obtain rfl:=HT1.out;exact⟨none,0,rfl,World.ownsRow_nil _ _ _ _,hff.1,hff.2⟩
set_option maxRecDepth 100000 in
set_option maxHeartbeats 8000000 in
theorem qX (w:World) (G:Nat) (l:List LTok) (a:Option Addr) (c k:Nat) (he:dR l) (h:PAt w G l a c k) (tx:List UInt8) (nu:Int) (at_:Nat) (hg:l[k]? =some ⟨1,tx,nu,at_⟩) (hw:tx=ls):
  Calls Tryz.prog 52 #[.pointer (some ⟨G,0,none⟩)] w (er w G l a c (bU l k)):=by
 have hk:k<l.length:=(List.getElem?_eq_some_iff.1 hg).1;have hle:=h.le;have hGw:=h.lt;have HOB:Hid (∀g,blk a g->g<w.heap.size):=Lib.hid (fun g hg=>h.old (by omega) hg);have HIP:=Lib.hid (eV hg);have HNX:=Lib.hid (he.next hg);obtain⟨res,hre⟩:∃r,bU l k=r:=⟨_,rfl⟩
 rw[hre];have HRES:=Lib.hid hre;clear hre;obtain⟨T,hT⟩:∃T:ByteArray,(⟨tx.toArray⟩:ByteArray)=T:=⟨_,rfl⟩
 have n0:New w (w.alloc (.cells #[.int .u8 0,.string ⟨#[]⟩,.string ⟨#[]⟩,.slice none 0 0,.string ⟨#[]⟩,I 0,I 0,.string ⟨#[]⟩,I 0,I 0,I 0] ItT)):=(New.refl w).alloc _;have hbR:(w.alloc (.cells #[.int .u8 0,.string ⟨#[]⟩,.string ⟨#[]⟩,.slice none 0 0,.string ⟨#[]⟩,I 0,I 0,.string ⟨#[]⟩,I 0,I 0,I 0] ItT)).heap[w.heap.size]? =some (.cells #[.int .u8 0,.string ⟨#[]⟩,.string ⟨#[]⟩,.slice none 0 0,.string ⟨#[]⟩,I 0,I 0,.string ⟨#[]⟩,I 0,I 0,I 0] ItT (0,0)):=heap_alloc_new w _;have hnx:=cw _ G l a c k (h.new n0) hk _ hg;simp only[f5,hT] at hnx;have H:=Lib.hid h;have HBR:=Lib.hid hbR;have HN0:=Lib.hid n0;have htx:=fun b=>fw tx b
 rw[hT] at htx;have t_actor:=fo (htx [97,99,116,111,114]) (by rw[hw];decide);have t_edge:=fo (htx [101,100,103,101]) (by rw[hw];decide);have t_in:=fo (htx [105,110]) (by rw[hw];decide);have t_out:=jA (htx [111,117,116]) hw;have d1:((1:Int) != 1)=false:=by decide
 have HRW:Hid (bU l k=(jH at_ l (k+1)).bind fun x k1=>(bW 3 [59] l k1).bind fun _ k2=> .good x k2):=Lib.hid (by rw[HIP.out,if_neg (fun h=>absurd (hw.symm.trans h.2) (by decide)),if_neg (fun h=>absurd (hw.symm.trans h.2) (by decide)),if_neg (fun h=>absurd (hw.symm.trans h.2) (by decide)),if_pos ⟨rfl,hw⟩]);have hk1:k+1<l.length:=HNX.out (by show(1:Int)≠0;decide);clear h hT hbR n0 htx hg hw;go_enter Tryz.func52,Tryz.ntmps52;go_wp2_with fail;refine hnx.mono ?_;rintro e w1 ⟨rfl,n1⟩;have n2:New w1 (w1.alloc (.cells #[.int .u8 1,.string T,I nu,I (at_:Int)] 98)):=(New.refl w1).alloc _;have hbF:=eG w1 (.int .u8 1) (.string T) (I nu) (I (at_:Int));obtain⟨p0,p1,p2,p3,-,hp⟩:=dM hbF;have N2:=Lib.hid ((HN0.out.trans n1).trans n2);have hs1:w.heap.size<w1.heap.size:=by have:=n1.size;simp at this;omega
 have hIS:ItS ((w1.alloc (.cells #[.int .u8 1,.string T,I nu,I (at_:Int)] 98)).alloc (.cells (cg at_) ItT)) G (w1.heap.size+1) l a c k (cg at_) ((w1.alloc (.cells #[.int .u8 1,.string T,I nu,I (at_:Int)] 98)).alloc (.cells (cg at_) ItT)):=
  ⟨H.out.new (N2.out.alloc _),by have:=heap_alloc_new (w1.alloc (.cells #[.int .u8 1,.string T,I nu,I (at_:Int)] 98)) (.cells (cg at_) ItT);simpa using this,Keeps.refl _ _,by omega,fun h=>by have:=HOB.out _ h;omega⟩
 have hRb:((w1.alloc (.cells #[.int .u8 1,.string T,I nu,I (at_:Int)] 98)).alloc (.cells (cg at_) ItT)).heap[w.heap.size]? =some (.cells #[.int .u8 0,.string ⟨#[]⟩,.string ⟨#[]⟩,.slice none 0 0,.string ⟨#[]⟩,I 0,I 0,.string ⟨#[]⟩,I 0,I 0,I 0] ItT (0,0)):=Keeps.heap ((n1.trans n2).alloc _) HBR.out (fun h=>h);have HRB:=Lib.hid hRb;have NW:=Lib.hid (N2.out.alloc (.cells (cg at_) ItT));have hXw:w.heap.size<=w1.heap.size+1:=by omega
 clear hRb n1 n2 hbF hnx;have hGX:G≠w1.heap.size+1:=by omega
 have hXG:w1.heap.size+1≠G:=by omega
 have hGF:G≠w1.heap.size:=by omega
 have hFG:w1.heap.size≠G:=by omega
 obtain⟨-,c1,z1,hG⟩:=hIS.p.cells;have hw1:IntKind.i64.wrap ((k:Int)+1)=(k:Int)+1:=IntWalk.i64_in _ (by omega);have e4:((k+1:Nat):Int)=(k:Int)+1:=by omega
 obtain⟨⟨y0,-,-,-,-,-,-,-,-,-,-⟩,z,hX⟩:=aN hIS.b;have x0:=z 0;clear z;have hq0:=(hIS.go (k+1)).set 0 (.int .u8 4);rw[e4] at hq0;simp only[cg,sLs] at hq0;have H1:=Lib.hid hq0;clear hq0 hIS e4;have hcon:=gX _ G l a c (k+1) he H1.out.p hk1;go_wp2_with fail;refine hcon.mono ?_;intro e w2 hq;clear hcon;rcases hq.inv with⟨j,hr,rfl,kb⟩|⟨t,k2,hr,rfl,hpp,kk⟩
 ·clear hq;go_wp2
  refine bm rfl ?_;rw[<-HRES.out,HRW.out];unfold jH;rw[hr,PR.bind_bad,PR.bind_bad];exact⟨rfl,ItS.fin NW.out (H1.out.bad kb) hXw⟩
 have HR1:=Lib.hid hr;have hk2:=(he.place hr).1;have hcall:=H1.out.call hpp kk;clear hq hr hpp kk H1;have hb:=hcall.b;obtain⟨pn1,pp1,pa1⟩:=t;obtain⟨⟨-,-,-,-,y4,y5,y6,-,-,-,-⟩,z,hX⟩:=aN hb;have x4:=z 4;have x5:=z 5;have x6:=z 6;clear z;have hq0:=((hcall.set 4 (.string ⟨pn1.toArray⟩)).set 5 (I pp1)).set 6 (I (pa1:Int));(try simp only[cg,sLs] at hq0)
 have H2:=Lib.hid hq0;clear hq0 hcall hb;have hcon:=dc _ G l a c k2 [45,62] H2.out.p hk2;go_wp2_with fail;refine hcon.mono ?_;intro e w3 hq;clear hcon;rcases hq.inv with⟨j,hr,rfl,kb⟩|⟨u,k3,hr,rfl,hpp,kk⟩
 ·clear hq;go_wp2
  refine bm rfl ?_;rw[<-HRES.out,HRW.out];unfold jH;rw[HR1.out,PR.bind_good,hr,PR.bind_bad,PR.bind_bad];exact⟨rfl,ItS.fin NW.out (H2.out.bad kb) hXw⟩
 have HR2:=Lib.hid hr;have hk3:=(he.must hr (by decide)).1;have hcall:=H2.out.call hpp kk;clear hq hr hpp kk H2;have hb:=hcall.b;have hq0:=hcall;(try simp only[cg,sLs] at hq0)
 have H3:=Lib.hid hq0;clear hq0 hcall hb;have hcon:=dr _ G l a c k3 1 H3.out.p hk3;go_wp2_with fail;refine hcon.mono ?_;intro e w4 hq;clear hcon;rcases hq.inv with⟨j,hr,rfl,kb⟩|⟨t,k4,hr,rfl,hpp,kk⟩
 ·clear hq;go_wp2
  refine bm rfl ?_;rw[<-HRES.out,HRW.out];unfold jH;rw[HR1.out,PR.bind_good,HR2.out,PR.bind_good,hr,PR.bind_bad,PR.bind_bad];exact⟨rfl,ItS.fin NW.out (H3.out.bad kb) hXw⟩
 have HR3:=Lib.hid hr;have hk4:=(he.take hr (by decide)).1;have hcall:=H3.out.call hpp kk;clear hq hr hpp kk H3;have hb:=hcall.b;obtain⟨so3,tx3,nu3,ta3⟩:=t;obtain⟨T3,hT3⟩:∃T:ByteArray,(⟨tx3.toArray⟩:ByteArray)=T:=⟨_,rfl⟩
 simp only[f5,hT3];have HT3:=Lib.hid hT3;have f1:=fun W=>(cS (.int .u8 so3) (.string T3) (I nu3) (I (ta3:Int)) W).2.1
 clear hT3;obtain⟨⟨-,y1,-,-,-,-,-,-,-,-,-⟩,z,hX⟩:=aN hb;have x1:=z 1;clear z;have hq0:=hcall.set 1 (.string T3);(try simp only[cg,sLs] at hq0)
 have H4:=Lib.hid hq0;clear hq0 hcall hb;have hcon:=dc _ G l a c k4 [59] H4.out.p hk4;go_wp2_with fail;refine hcon.mono ?_;intro e w5 hq;clear hcon;rcases hq.inv with⟨j,hr,rfl,kb⟩|⟨u,k5,hr,rfl,hpp,kk⟩
 ·clear hq;go_wp2
  refine bm rfl ?_;rw[<-HRES.out,HRW.out];unfold jH;rw[HR1.out,PR.bind_good,HR2.out,PR.bind_good,HR3.out,PR.bind_good,PR.bind_good,hr,PR.bind_bad];exact⟨rfl,ItS.fin NW.out (H4.out.bad kb) hXw⟩
 have HR4:=Lib.hid hr;have hk5:=(he.must hr (by decide)).1;have hcall:=H4.out.call hpp kk;clear hq hr hpp kk H4;have hb:=hcall.b;have hq0:=hcall;(try simp only[cg,sLs] at hq0)
 have H5:=Lib.hid hq0;clear hq0 hcall hb;have hb:=H5.out.b;obtain⟨⟨y0,y1,y2,y3,y4,y5,y6,y7,y8,y9,y10⟩,-,hX⟩:=aN hb;have hbR:=H5.out.ks.heap HRB.out (fun h=>by rcases h with h|h<;>omega);obtain⟨⟨r0,r1,r2,r3,r4,r5,r6,r7,r8,r9,r10⟩,z,hR⟩:=aN hbR;have x0:=z 0;have x1:=z 1;have x2:=z 2;have x3:=z 3;have x4:=z 4;have x5:=z 5;have x6:=z 6;have x7:=z 7;have x8:=z 8;have x9:=z 9;have x10:=z 10;have hst:=jk hbR (.int .u8 4) (.string T3) (.string ⟨#[]⟩) (.slice none 0 0) (.string ⟨pn1.toArray⟩) (I pp1) (I (pa1:Int)) (.string ⟨#[]⟩) (I 0) (I 0) (I (at_:Int));have hPf:=H5.out.p.keeps hst.2 (fun h=>by omega) (fun g hg h=>by have:=HOB.out g hg;omega);have hKf:=(ItS.fin NW.out H5.out.ks hXw).trans hst.2 (fun i hi h=>by omega);have hbf:=hst.1;have HFF:=Lib.hid hbf;have HFP:=Lib.hid (And.intro hPf hKf);clear hst hPf hKf hbf hb hbR z H5;go_wp2_with fail;have hbf:=HFF.out;have hff:=HFP.out;clear HFF HFP y0 y1 y2 y3 y4 y5 y6 y7 y8 y9 y10 r0 r1 r2 r3 r4 r5 r6 r7 r8 r9 r10 x0 x1 x2 x3 x4 x5 x6 x7 x8 x9 x10;generalize(((((((((((w5.setCell ⟨w.heap.size,0,none⟩ (.int .u8 4)).setCell ⟨w.heap.size,1,none⟩ (.string T3)).setCell ⟨w.heap.size,2,none⟩ (.string ⟨#[]⟩)).setCell ⟨w.heap.size,3,none⟩ (.slice none 0 0)).setCell ⟨w.heap.size,4,none⟩ (.string ⟨pn1.toArray⟩)).setCell ⟨w.heap.size,5,none⟩ (I pp1)).setCell ⟨w.heap.size,6,none⟩ (I (pa1:Int))).setCell ⟨w.heap.size,7,none⟩ (.string ⟨#[]⟩)).setCell ⟨w.heap.size,8,none⟩ (I 0)).setCell ⟨w.heap.size,9,none⟩ (I 0)).setCell ⟨w.heap.size,10,none⟩ (I (at_:Int)))=Wf at hbf hff ⊢;obtain⟨⟨r0,r1,r2,r3,r4,r5,r6,r7,r8,r9,r10⟩,-,-⟩:=aN hbf;refine bodyPost_ret (v:= .agg #[.int .u8 4,.string T3,.string ⟨#[]⟩,.slice none 0 0,.string ⟨pn1.toArray⟩,I pp1,I (pa1:Int),.string ⟨#[]⟩,I 0,I 0,I (at_:Int)]) (by simp[results,Tryz.results52,go_sem,r0,r1,r2,r3,r4,r5,r6,r7,r8,r9,r10]) rfl ?_;rw[<-HRES.out,HRW.out];unfold jH;rw[HR1.out,PR.bind_good,HR2.out,PR.bind_good,HR3.out,PR.bind_good,PR.bind_good,HR4.out,PR.bind_good];obtain rfl:=HT3.out;exact⟨none,0,rfl,World.ownsRow_nil _ _ _ _,hff.1,hff.2⟩
set_option maxRecDepth 100000 in
set_option maxHeartbeats 8000000 in
theorem oU (w:World) (G:Nat) (l:List LTok) (a:Option Addr) (c k:Nat) (he:dR l) (h:PAt w G l a c k) (tx:List UInt8) (nu:Int) (at_:Nat) (hg:l[k]? =some ⟨1,tx,nu,at_⟩) (hw:tx=hZ):
  Calls Tryz.prog 52 #[.pointer (some ⟨G,0,none⟩)] w (er w G l a c (bU l k)):=by
 have hk:k<l.length:=(List.getElem?_eq_some_iff.1 hg).1;have hle:=h.le;have hGw:=h.lt;have HOB:Hid (∀g,blk a g->g<w.heap.size):=Lib.hid (fun g hg=>h.old (by omega) hg);have HIP:=Lib.hid (eV hg);have HNX:=Lib.hid (he.next hg);obtain⟨res,hre⟩:∃r,bU l k=r:=⟨_,rfl⟩
 rw[hre];have HRES:=Lib.hid hre;clear hre;obtain⟨T,hT⟩:∃T:ByteArray,(⟨tx.toArray⟩:ByteArray)=T:=⟨_,rfl⟩
 have n0:New w (w.alloc (.cells #[.int .u8 0,.string ⟨#[]⟩,.string ⟨#[]⟩,.slice none 0 0,.string ⟨#[]⟩,I 0,I 0,.string ⟨#[]⟩,I 0,I 0,I 0] ItT)):=(New.refl w).alloc _;have hbR:(w.alloc (.cells #[.int .u8 0,.string ⟨#[]⟩,.string ⟨#[]⟩,.slice none 0 0,.string ⟨#[]⟩,I 0,I 0,.string ⟨#[]⟩,I 0,I 0,I 0] ItT)).heap[w.heap.size]? =some (.cells #[.int .u8 0,.string ⟨#[]⟩,.string ⟨#[]⟩,.slice none 0 0,.string ⟨#[]⟩,I 0,I 0,.string ⟨#[]⟩,I 0,I 0,I 0] ItT (0,0)):=heap_alloc_new w _;have hnx:=cw _ G l a c k (h.new n0) hk _ hg;simp only[f5,hT] at hnx;have H:=Lib.hid h;have HBR:=Lib.hid hbR;have HN0:=Lib.hid n0;have htx:=fun b=>fw tx b
 rw[hT] at htx;have t_actor:=fo (htx [97,99,116,111,114]) (by rw[hw];decide);have t_edge:=jA (htx [101,100,103,101]) hw;have d1:((1:Int) != 1)=false:=by decide
 have HRW:Hid (bU l k=(eM at_ l (k+1)).bind fun x k1=>(bW 3 [59] l k1).bind fun _ k2=> .good x k2):=Lib.hid (by rw[HIP.out,if_neg (fun h=>absurd (hw.symm.trans h.2) (by decide)),if_pos ⟨rfl,hw⟩]);have hk1:k+1<l.length:=HNX.out (by show(1:Int)≠0;decide);clear h hT hbR n0 htx hg hw;go_enter Tryz.func52,Tryz.ntmps52;go_wp2_with fail;refine hnx.mono ?_;rintro e w1 ⟨rfl,n1⟩;have n2:New w1 (w1.alloc (.cells #[.int .u8 1,.string T,I nu,I (at_:Int)] 98)):=(New.refl w1).alloc _;have hbF:=eG w1 (.int .u8 1) (.string T) (I nu) (I (at_:Int));obtain⟨p0,p1,p2,p3,-,hp⟩:=dM hbF;have N2:=Lib.hid ((HN0.out.trans n1).trans n2);have hs1:w.heap.size<w1.heap.size:=by have:=n1.size;simp at this;omega
 have hIS:ItS ((w1.alloc (.cells #[.int .u8 1,.string T,I nu,I (at_:Int)] 98)).alloc (.cells (cg at_) ItT)) G (w1.heap.size+1) l a c k (cg at_) ((w1.alloc (.cells #[.int .u8 1,.string T,I nu,I (at_:Int)] 98)).alloc (.cells (cg at_) ItT)):=
  ⟨H.out.new (N2.out.alloc _),by have:=heap_alloc_new (w1.alloc (.cells #[.int .u8 1,.string T,I nu,I (at_:Int)] 98)) (.cells (cg at_) ItT);simpa using this,Keeps.refl _ _,by omega,fun h=>by have:=HOB.out _ h;omega⟩
 have hRb:((w1.alloc (.cells #[.int .u8 1,.string T,I nu,I (at_:Int)] 98)).alloc (.cells (cg at_) ItT)).heap[w.heap.size]? =some (.cells #[.int .u8 0,.string ⟨#[]⟩,.string ⟨#[]⟩,.slice none 0 0,.string ⟨#[]⟩,I 0,I 0,.string ⟨#[]⟩,I 0,I 0,I 0] ItT (0,0)):=Keeps.heap ((n1.trans n2).alloc _) HBR.out (fun h=>h);have HRB:=Lib.hid hRb;have NW:=Lib.hid (N2.out.alloc (.cells (cg at_) ItT));have hXw:w.heap.size<=w1.heap.size+1:=by omega
 clear hRb n1 n2 hbF hnx;have hGX:G≠w1.heap.size+1:=by omega
 have hXG:w1.heap.size+1≠G:=by omega
 have hGF:G≠w1.heap.size:=by omega
 have hFG:w1.heap.size≠G:=by omega
 obtain⟨-,c1,z1,hG⟩:=hIS.p.cells;have hw1:IntKind.i64.wrap ((k:Int)+1)=(k:Int)+1:=IntWalk.i64_in _ (by omega);have e4:((k+1:Nat):Int)=(k:Int)+1:=by omega
 have hq0:=hIS.go (k+1);rw[e4] at hq0;simp only[cg,sLs] at hq0;have H1:=Lib.hid hq0;clear hq0 hIS e4;have hcon:=qW _ G (w1.heap.size+1) l a c (k+1) at_ he H1.out.here hk1;go_wp2_with fail;refine hcon.mono ?_;intro e w2 hq;clear hcon;unfold pw at hq;cases hr:eM at_ l (k+1) with
 |bad j=>
  rw[hr] at hq;obtain⟨rfl,kb⟩:=hq;go_wp2
  refine bm rfl ?_;rw[<-HRES.out,HRW.out,hr,PR.bind_bad];exact⟨rfl,ItS.fin NW.out (H1.out.ks.trans kb (fun _ _ h=>h)) hXw⟩
 |good x k2=>
 rw[hr] at hq;obtain⟨rfl,ao,co,hIS2,ho⟩:=hq;have HR1:=Lib.hid hr;have hk2:k2<l.length:=(he.edge hr).1;have HOX:=Lib.hid (ho.base (B':=w.heap.size) (by have hz:=H1.out.ks.size;simp at hz ⊢;omega));obtain⟨xk,xn,xt,xs,⟨fn,fp,fa⟩,⟨tn,tp,ta⟩,xa⟩:=x;have H2:Hid (ItS _ G (w1.heap.size+1) l a c k2 #[.int .u8 xk,.string ⟨xn.toArray⟩,.string ⟨xt.toArray⟩,.slice ao xs.length co,.string ⟨fn.toArray⟩,I fp,I (fa:Int),.string ⟨tn.toArray⟩,I tp,I (ta:Int),I (xa:Int)] w2):=Lib.hid (ItS.tr H1.out.ks hIS2);clear hr hIS2 ho H1;have hcon:=dc _ G l a c k2 [59] H2.out.p hk2;go_wp2_with fail;refine hcon.mono ?_;intro e w3 hq;clear hcon;rcases hq.inv with⟨j,hr,rfl,kb⟩|⟨u,k3,hr,rfl,hpp,kk⟩
 ·clear hq;go_wp2
  refine bm rfl ?_;rw[<-HRES.out,HRW.out];rw[HR1.out,PR.bind_good,hr,PR.bind_bad];exact⟨rfl,ItS.fin NW.out (H2.out.bad kb) hXw⟩
 have HR2:=Lib.hid hr;have hk3:=(he.must hr (by decide)).1;have hcall:=H2.out.call hpp kk;have hox:bp _ w.heap.size ao co _:=au HOX.out kk (fun g hg=>⟨_,_,_,hg▸H2.out.p.bk,by decide⟩);clear HOX;have HOX:=Lib.hid hox;clear hox;clear hq hr hpp kk H2;have hb:=hcall.b;have hq0:=hcall;(try simp only[cg,sLs] at hq0)
 have H3:=Lib.hid hq0;clear hq0 hcall hb;have hb:=H3.out.b;obtain⟨⟨y0,y1,y2,y3,y4,y5,y6,y7,y8,y9,y10⟩,-,hX⟩:=aN hb;have hbR:=H3.out.ks.heap HRB.out (fun h=>by rcases h with h|h<;>omega);obtain⟨⟨r0,r1,r2,r3,r4,r5,r6,r7,r8,r9,r10⟩,z,hR⟩:=aN hbR;have x0:=z 0;have x1:=z 1;have x2:=z 2;have x3:=z 3;have x4:=z 4;have x5:=z 5;have x6:=z 6;have x7:=z 7;have x8:=z 8;have x9:=z 9;have x10:=z 10;have hst:=jk hbR (.int .u8 xk) (.string ⟨xn.toArray⟩) (.string ⟨xt.toArray⟩) (.slice ao xs.length co) (.string ⟨fn.toArray⟩) (I fp) (I (fa:Int)) (.string ⟨tn.toArray⟩) (I tp) (I (ta:Int)) (I (xa:Int));have hPf:=H3.out.p.keeps hst.2 (fun h=>by omega) (fun g hg h=>by have:=HOB.out g hg;omega);have hKf:=(ItS.fin NW.out H3.out.ks hXw).trans hst.2 (fun i hi h=>by omega);have hOf:=HOX.out.it hbR (by decide) hst.2;have hbf:=hst.1;have HFF:=Lib.hid hbf;have HFP:=Lib.hid (And.intro hPf (And.intro hKf hOf));clear hst hPf hKf hbf hb hbR z H3 hOf;go_wp2_with fail;have hbf:=HFF.out;have hff:=HFP.out;clear HFF HFP y0 y1 y2 y3 y4 y5 y6 y7 y8 y9 y10 r0 r1 r2 r3 r4 r5 r6 r7 r8 r9 r10 x0 x1 x2 x3 x4 x5 x6 x7 x8 x9 x10;generalize(((((((((((w3.setCell ⟨w.heap.size,0,none⟩ (.int .u8 xk)).setCell ⟨w.heap.size,1,none⟩ (.string ⟨xn.toArray⟩)).setCell ⟨w.heap.size,2,none⟩ (.string ⟨xt.toArray⟩)).setCell ⟨w.heap.size,3,none⟩ (.slice ao xs.length co)).setCell ⟨w.heap.size,4,none⟩ (.string ⟨fn.toArray⟩)).setCell ⟨w.heap.size,5,none⟩ (I fp)).setCell ⟨w.heap.size,6,none⟩ (I (fa:Int))).setCell ⟨w.heap.size,7,none⟩ (.string ⟨tn.toArray⟩)).setCell ⟨w.heap.size,8,none⟩ (I tp)).setCell ⟨w.heap.size,9,none⟩ (I (ta:Int))).setCell ⟨w.heap.size,10,none⟩ (I (xa:Int)))=Wf at hbf hff ⊢;obtain⟨⟨r0,r1,r2,r3,r4,r5,r6,r7,r8,r9,r10⟩,-,-⟩:=aN hbf;refine bodyPost_ret (v:= .agg #[.int .u8 xk,.string ⟨xn.toArray⟩,.string ⟨xt.toArray⟩,.slice ao xs.length co,.string ⟨fn.toArray⟩,I fp,I (fa:Int),.string ⟨tn.toArray⟩,I tp,I (ta:Int),I (xa:Int)]) (by simp[results,Tryz.results52,go_sem,r0,r1,r2,r3,r4,r5,r6,r7,r8,r9,r10]) rfl ?_;rw[<-HRES.out,HRW.out];rw[HR1.out,PR.bind_good,HR2.out,PR.bind_good];have h9:bp Wf w.heap.size ao co xs:=hff.2.2;have h8:=hff.1;have h7:=hff.2.1;clear hff;simp only[er];exact⟨ao,co,rfl,h9,h8,h7⟩
theorem lQ (w:World) (G:Nat) (l:List LTok) (a:Option Addr) (c k:Nat) (he:dR l) (h:PAt w G l a c k) (hk:k<l.length):
  Calls Tryz.prog 52 #[.pointer (some ⟨G,0,none⟩)] w (er w G l a c (bU l k)):=by
 have hg:=List.getElem?_eq_getElem hk;obtain⟨t,ht⟩:∃t,l[k]=t:=⟨_,rfl⟩
 rw[ht] at hg;obtain⟨so,tx,nu,at_⟩:=t;by_cases hs:so=1
 ·subst hs;by_cases h1:tx=fI
  ·exact ny w G l a c k he h tx nu at_ hg h1
  ·by_cases h2:tx=hZ
   ·exact oU w G l a c k he h tx nu at_ hg h2
   ·by_cases h3:tx=inW
    ·exact sQ w G l a c k he h tx nu at_ hg h3
    ·by_cases h4:tx=ls
     ·exact qX w G l a c k he h tx nu at_ hg h4
     ·exact nz w G l a c k he h tx nu at_ hg h1 h2 h3 h4
 ·exact oV w G l a c k he h so tx nu at_ hg hs
end Go.Proofs.YtnedmonlofbahaaGreatDoor
namespace Go.Proofs.YtnedmonlofbahaaGreatDoor
open Go Go.RowKit Go.Joins
set_option linter.all false
theorem iI {w:World} {R:Nat} {x0 x1:Value} {T:TypeId} (h:w.heap[R]? =some (.cells #[x0,x1] T (0,0))) (u0 u1:Value):((w.setCell ⟨R,0,none⟩ u0).setCell ⟨R,1,none⟩ u1).heap[R]? =some (.cells #[u0,u1] T (0,0))∧Keeps (fun k=>k=R) w ((w.setCell ⟨R,0,none⟩ u0).setCell ⟨R,1,none⟩ u1):=by
 have h1:=block_setCell (i:=0) h u0;have h2:=block_setCell (i:=1) h1 u1;refine⟨by rw[h2];simp,(Keeps.setCell (S:=fun k=>k=R) w _ _ rfl).trans (Keeps.setCell (S:=fun k=>k=R) _ _ _ rfl) (fun _ _ h=>h)⟩
theorem bx {w:World} {R:Nat} {x0 x1:Value} {T:TypeId} (h:w.heap[R]? =some (.cells #[x0,x1] T (0,0))):
  w.cell? ⟨R,0,none⟩=some x0∧w.cell? ⟨R,1,none⟩=some x1∧w.frozen? ⟨R,0,none⟩=false∧w.frozen? ⟨R,1,none⟩=false∧R<w.heap.size:=by
 refine⟨?_,?_,unfrozen_of_block h 0,unfrozen_of_block h 1,(Array.getElem?_eq_some_iff.1 h).1⟩
 ·rw[cell_of_block h 0];rfl
 ·rw[cell_of_block h 1];rfl
theorem pB {w:World} {G:Nat} {l:List LTok} {a:Option Addr} {c k:Nat} (h:PAt w G l a c k):du w G=k:=by
 unfold du;rw[h.cells.2.1];exact Int.toNat_natCast _
theorem eZ {P:Program} {fn:Func} {tmps:Array Value} {k:Nat} {v:Value} {R:Ending->World->Prop} (hr:results fn (tmps.setIfInBounds k v)=results fn tmps):∀(ds:List Deferred) (u:FrameMode) (w:World),Leaves P fn (tmps.setIfInBounds k v) R ds u w->Leaves P fn tmps R ds u w:=by
 intro ds;induction ds with
 |nil=>
  intro u w h;cases u with
  |run=>exact h
  |returning=>
   obtain⟨x,h1,h2⟩:=h;exact⟨x,by rw[<-hr];exact h1,h2⟩
  |panicking c=>exact h
 |cons d ds ih=>
  intro u w h;obtain⟨hu,fv,cap,f,args,h1,h2,h3⟩:=h;refine⟨hu,fv,cap,f,args,h1,h2,h3.mono ?_⟩;intro e u' w' h4;cases e with
  |returned x=>exact ih _ _ h4
  |panicked c=>exact ih _ _ h4
  |outgrown=>exact h4
theorem fC (tmps:Array Value) (k:Nat) (v:Value) (h2:k≠2) (h3:k≠3):results Tryz.f23 (tmps.setIfInBounds k v)=results Tryz.f23 tmps:=by
 unfold results;rw[Tryz.results23];simp[h2,h3]
set_option maxRecDepth 100000 in
set_option maxHeartbeats 4000000 in
theorem dF (w:World) (R0 R1:Nat) (x0 x1 d0 d1:Value) (c a:Int) (older:List PanicEntry) (hne:R0≠R1)
  (h0:w.heap[R0]? =some (.cells #[x0,x1] 52 (0,0))) (h1:w.heap[R1]? =some (.cells #[d0,d1] 33 (0,0))):
  CallsD Tryz.prog 47 #[.pointer (some ⟨R0,0,none⟩),.pointer (some ⟨R1,0,none⟩)] (.panicking ({ v:= .iface 33 (.agg #[I c,I a]),recovered:=false } ::older)) w fun e u' w'=>
   e= .returned (.tuple #[])∧u'= .panicking ({ v:= .iface 33 (.agg #[I c,I a]),recovered:=true } ::older)∧
   w'.heap[R0]? =some (.cells #[.string ⟨#[]⟩,.slice none 0 0] 52 (0,0))∧w'.heap[R1]? =some (.cells #[I c,I a] 33 (0,0))∧Keeps (fun k=>k=R0∨k=R1) w w':=by
 obtain⟨g0,g1,z0,z1,hR0⟩:=bx h0;obtain⟨e0,e1,y0,y1,hR1⟩:=bx h1;have H0:=Lib.hid h0;have H1:=Lib.hid h1;clear h0 h1;have hta:∀w:World,(Instr.typeAssert (.iface 33 (.agg #[I c,I a])) 20 33 false).run Tryz.prog w= .ok (.agg #[I c,I a]) w:=fun _=>by first|rfl|kernel_rfl
 refine callsD_of_wpS Tryz.func47 rfl fun c₀ cs hu=>?_
 apply wpS_seq;apply wpS_region;simp[wpOpsS,go_sem,recoverD,hu,Tryz.ntmps47,Exit.thenS];refine wpS_of_wp ?_;have ht:#[Value.pointer (some ⟨R0,0,none⟩),Value.pointer (some ⟨R1,0,none⟩)]++((Array.replicate 7 undef).setIfInBounds 1 (Value.iface 33 (Value.agg #[I c,I a]))).setIfInBounds 0 (Value.iface 33 (Value.agg #[I c,I a]))
  =#[Value.pointer (some ⟨R0,0,none⟩),Value.pointer (some ⟨R1,0,none⟩),Value.iface 33 (Value.agg #[I c,I a]),Value.iface 33 (Value.agg #[I c,I a]),undef,undef,undef,undef,undef]:=by rfl
 rw[ht];clear ht;go_wp2_with fail;go_region
 obtain⟨b0,k0⟩:=iI H0.out (.string ⟨#[]⟩) (.slice none 0 0);have h1':=k0.heap H1.out (fun e=>hne e.symm);obtain⟨b1,k1⟩:=iI h1' (I c) (I a);have b0':=k1.heap b0 hne;have kd:=((k0.mono (T:=fun k=>k=R0∨k=R1) (fun _ _ h=> .inl h)).trans k1 (fun _ _ h=> .inr h)).trans (Keeps.drew (S:=fun _=>False) _) (fun _ _ h=>h.elim);show bodyPostS _ _ _ _ _ _ _ _ _
 simp[bodyPostS,results,Tryz.results47,hu];exact⟨b0',b1,kd⟩
set_option maxRecDepth 100000 in
theorem mw (w:World) (p0 p1:Value):
  CallsD Tryz.prog 47 #[p0,p1] .returning w fun e u' w'=>e= .returned (.tuple #[])∧u'= .returning∧w'=w:=by
 refine callsD_of_wpS Tryz.func47 rfl fun c₀ cs hu=>?_
 apply wpS_seq;apply wpS_region;simp[wpOpsS,go_sem,recoverD,hu,Tryz.ntmps47,Exit.thenS];refine wpS_of_wp ?_;have ht:#[p0,p1]++((Array.replicate 7 undef).setIfInBounds 1 Value.nilIface).setIfInBounds 0 Value.nilIface=#[p0,p1,Value.nilIface,Value.nilIface,undef,undef,undef,undef,undef]:=by rfl
 rw[ht];clear ht;go_wp2_with fail;show bodyPostS _ _ _ _ _ _ _ _ _
 cases c₀
 simp_all[bodyPostS,results,Tryz.results47]
def vc (w:World) (res:Except (Int×Nat) LSk) (e:Ending) (w':World):Prop:=match res with
 | .error (c,a)=>e= .returned (.tuple #[.agg #[.string ⟨#[]⟩,.slice none 0 0],.agg #[I c,I (a:Int)]])∧New w w'
 | .ok x=>∃s:Sk,s.bare=x.mem∧e= .returned (.tuple #[s.v,.agg #[I 0,I 0]])∧SkOwn w' w.heap.size s∧New w w'
theorem SkOwn.oth {S:Nat->Prop} {w w':World} {B:Nat} {s:Sk} (h:SkOwn w B s) (k:Keeps S w w') (hS:∀g,S g->∃cur t fr,w.heap[g]? =some (.cells cur t fr)∧t≠ItT∧t≠3):SkOwn w' B s:=
 ⟨au h.io k (fun g hg=>by obtain⟨c,t,f,h1,h2,_⟩:=hS g hg;exact⟨c,t,f,h1,h2⟩),fun x hx=>au (h.nx x hx) k (fun g hg=>by obtain⟨c,t,f,h1,_,h2⟩:=hS g hg;exact⟨c,t,f,h1,h2⟩),h.ap⟩
theorem SkOwn.base {w:World} {B B':Nat} {s:Sk} (h:SkOwn w B s) (hb:B'<=B):SkOwn w B' s:=
 ⟨dD h.io (fun k hk=>by have:=(an h.io (bH hk)).1;omega),fun x hx=>(h.nx x hx).base hb,h.ap⟩
structure PsS (w:World) (G M:Nat) (l:List LTok) (a:Option Addr) (c k:Nat) (s:Sk) (acc:List LIt) (wr:World):Prop where
 p:PAt wr G l a c k
 sk:SkB wr M w.heap.size s
 f:wr.heap[w.heap.size+1]? =some (.cells #[I 0,I 0] 33 (0,0))
 it:s.items.map SIt.bare=acc.map fun x=>x.mem none 0
 nw:New w wr
 hM:M<=wr.heap.size
 g1:w.heap.size+2<=G
 g2:G<M
 ha:∀g,blk a g->w.heap.size+2<=g∧g<M
section
variable {w:World} {G M:Nat} {l:List LTok} {a:Option Addr} {c k:Nat} {s:Sk} {acc:List LIt} {wr w':World}
theorem PsS.new (h:PsS w G M l a c k s acc wr) (n:New wr w'):PsS w G M l a c k s acc w':=
 ⟨h.p.new n,h.sk.new n,Keeps.heap n h.f (fun h=>h),h.it,h.nw.trans n,Nat.le_trans h.hM n.size,h.g1,h.g2,h.ha⟩
theorem PsS.call {k':Nat} (h:PsS w G M l a c k s acc wr) (hp:PAt w' G l a c k') (hk:Keeps (fun b=>b=G) wr w'):PsS w G M l a c k' s acc w':=
 ⟨hp,⟨hk.heap h.sk.blkP (by have:=h.g1;omega),h.sk.own.oth hk (fun g hg=>⟨_,_,_,hg▸h.p.bk,by decide,by decide⟩)⟩,hk.heap h.f (by have:=h.g1;omega),h.it,h.nw.keeps hk (fun i hi e=>by have:=h.g1;omega),Nat.le_trans h.hM hk.size,h.g1,h.g2,h.ha⟩
theorem PsS.bad (h:PsS w G M l a c k s acc wr) (hk:Keeps (fun b=>b=G) wr w'):w'.heap[w.heap.size]? =some (.cells s.cs 52 (0,0))∧w'.heap[w.heap.size+1]? =some (.cells #[I 0,I 0] 33 (0,0))∧New w w':=
 ⟨hk.heap h.sk.blkP (by have:=h.g1;omega),hk.heap h.f (by have:=h.g1;omega),h.nw.keeps hk (fun i hi e=>by have:=h.g1;omega)⟩
theorem PsS.name (h:PsS w G M l a c k s acc wr) (v:ByteArray):PsS w G M l a c k { s with name:=v } acc (wr.setCell ⟨w.heap.size,0,none⟩ (.string v)):=by
 have ks:Keeps (fun b=>b=w.heap.size) wr (wr.setCell ⟨w.heap.size,0,none⟩ (.string v)):=Keeps.setCell wr _ _ rfl;have g1:=h.g1;have hb:=block_setCell (i:=0) h.sk.blkP (.string v);exact⟨h.p.keeps ks (by omega) (fun g hg e=>by have:=h.ha g hg;omega),⟨by rw[hb];simp,have:=h.sk.own.oth ks (fun g hg=>⟨_,_,_,hg▸h.sk.blkP,by decide,by decide⟩);⟨this.io,this.nx,this.ap⟩⟩,ks.heap h.f (by omega),h.it,h.nw.keeps ks (fun i hi e=>by omega),Nat.le_trans h.hM ks.size,h.g1,h.g2,h.ha⟩
theorem PsS.add {w2 w3:World} (h:PsS w G M l a c k s acc wr) {k':Nat} (hp:PAt w2 G l a c k') (kG:Keeps (fun b=>b=G) wr w2) (x:LIt) {ao:Option Addr} {co:Nat} (hx:bp w2 wr.heap.size ao co x.xs)
  {w1:World} (kl:New w2 w1) {a':Option Addr} {c':Nat} (ho:w3.ownsRow M ItT 11 (.slice a' (s.items.length+1) c') (s.items.length+1) (s.items.flatMap aS++aS (x.mem ao co))) (hk:Keeps (blk s.ia) w1 w3):
  (w3.cell? ⟨w.heap.size,1,none⟩=some (.slice s.ia s.items.length s.ic)∧w3.frozen? ⟨w.heap.size,1,none⟩=false∧w.heap.size<w3.heap.size)∧
  PsS w G M l a c k' { s with ia:=a',ic:=c',items:=s.items++[x.mem ao co] } (acc++[x]) (w3.setCell ⟨w.heap.size,1,none⟩ (.slice a' (s.items.length+1) c')):=by
 have h2:=h.call hp kG;have hM2:=h.hM;have g1:=h.g1;have g2:=h.g2;have h3:SkB w2 M w.heap.size s:=h2.sk;have hx2:bp w1 M (x.mem ao co).a (x.mem ao co).c (x.mem ao co).xs:=bp.base (kl.owns hx) hM2;have hsb:∀g,blk s.ia g->M<=g∧g<w2.heap.size:=fun g hg=>an h3.own.io hg
 have hlit:∀g,blk (x.mem ao co).a g->wr.heap.size<=g:=fun g hg=>(an hx hg).1
 have hd:∀g,blk (x.mem ao co).a g->∀y∈s.items,¬blk y.a g:=fun g hg y hy hb=>by
  have h1:=(an (h.sk.own.nx y hy) hb).2;have h4:=hlit g hg;omega
 have htag:∀g,blk s.ia g->∃cur,w1.heap[g]? =some (.cells cur ItT (0,0)):=fun g hg=>be (kl.owns h3.own.io) (bu hg)
 have hto:∀e:TypeId,ItT≠e->∀g,blk s.ia g->∃cur t fr,w1.heap[g]? =some (.cells cur t fr)∧t≠e:=fun e he g hg=>by
  obtain⟨cur,hc⟩:=htag g hg;exact⟨cur,_,_,hc,he⟩
 have hP1:=Keeps.heap kl h3.blkP (fun h=>h);have hP3:=hk.heap hP1 (fun hb=>by have:=hsb _ hb;omega);have hP4:=block_setCell (i:=1) hP3 (.slice a' (s.items.length+1) c');have hks:Keeps (fun k=>k=w.heap.size) w3 (w3.setCell ⟨w.heap.size,1,none⟩ (.slice a' (s.items.length+1) c')):=Keeps.setCell w3 _ _ rfl;have htP:∀e:TypeId,52≠e->∀g,g=w.heap.size->∃cur t fr,w3.heap[g]? =some (.cells cur t fr)∧t≠e:=fun e he g hg=>⟨_,_,_,hg▸hP3,he⟩
 have kn:New w1 w1:=New.refl _;refine⟨⟨?_,unfrozen_of_block hP3 1,(Array.getElem?_eq_some_iff.1 hP3).1⟩,?_,⟨?_,?_,?_,?_⟩,?_,?_,?_,?_,h.g1,h.g2,h.ha⟩
 ·rw[cell_of_block hP3 1];rfl
 ·exact((hp.new kl).keeps hk (fun hb=>by have:=hsb _ hb;omega) (fun g hg hb=>by have h5:=hsb _ hb;have h6:=h.ha g hg;omega)).keeps hks (by omega) (fun g hg e=>by have h6:=h.ha g hg;omega)
 ·rw[hP4];simp
 ·have:=au ho hks (htP _ (by decide));simpa using this
 ·intro y hy;rcases List.mem_append.1 hy with hy|hy
  ·exact au (au (kl.owns (h3.own.nx y hy)) hk (hto _ (by decide))) hks (htP _ (by decide))
  ·rw[List.mem_singleton.1 hy];exact au (au hx2 hk (hto _ (by decide))) hks (htP _ (by decide))
 ·simp only[List.map_append,List.map_cons,List.map_nil];rw[List.pairwise_append];refine⟨h.sk.own.ap,List.pairwise_singleton _ _,fun b hb c hc=>?_⟩;rw[List.mem_singleton.1 hc];intro k hk1 hk2;obtain⟨y,hy,rfl⟩:=List.mem_map.1 hb;exact hd k hk2 y hy hk1
 ·exact hks.heap (hk.heap (Keeps.heap kl h2.f (fun h=>h)) (fun hb=>by have:=hsb _ hb;omega)) (by omega)
 ·show(s.items++[x.mem ao co]).map SIt.bare=(acc++[x]).map _
  rw[List.map_append,List.map_append,h.it];rfl
 ·exact((h2.nw.trans kl).keeps hk (fun i hi hb=>by have:=hsb _ hb;have:=h.nw.size;omega)).keeps hks (fun i hi e=>by omega)
 ·have a1:=kG.size;have a2:=kl.size;have a3:=hk.size;have a4:=hks.size;omega
end
theorem oS {s:List UInt8} {l:List LTok} {c:Int} {k:Nat} (h:dU s=(l,c,k)) (hc:c≠0):dv s= .error (c,k):=by unfold dv;rw[h];simp only;rw[if_pos hc]
theorem oT {s:List UInt8} {l:List LTok} (h:dU s=(l,0,0)):dv s=match dj l with| .good x _=> .ok x| .bad j=> .error (50,atT l j):=by unfold dv;rw[h];simp only;rw[if_neg (by simp)];rfl
set_option maxRecDepth 100000 in
set_option maxHeartbeats 8000000 in
theorem lP (w:World) (s:ByteArray) (he:Env w) (hs:s.size<=9223372036854775807):
  Calls Tryz.prog 23 #[.string s] w (vc w (dv s.data.toList)):=by
 have hmf:∀(fn:Fn) (first cap:Array Value) (w:World),(Instr.makeFunc fn first cap).run Tryz.prog w= .ok (.func fn first cap) w:=fun _ _ _ _=>rfl
 obtain⟨⟨l,c,k⟩,hA⟩:∃r,dU s.data.toList=r:=⟨_,rfl⟩
 have n0:New w ((w.alloc (.cells #[.string ⟨#[]⟩,.slice none 0 0] 52)).alloc (.cells #[I 0,I 0] 33)):=((New.refl w).alloc _).alloc _;have hb0:((w.alloc (.cells #[.string ⟨#[]⟩,.slice none 0 0] 52)).alloc (.cells #[I 0,I 0] 33)).heap[w.heap.size]? =some (.cells #[.string ⟨#[]⟩,.slice none 0 0] 52 (0,0)):=Keeps.heap (Keeps.alloc (S:=fun _=>False) _ _) (heap_alloc_new w _) (fun h=>h);have hb1:((w.alloc (.cells #[.string ⟨#[]⟩,.slice none 0 0] 52)).alloc (.cells #[I 0,I 0] 33)).heap[w.heap.size+1]? =some (.cells #[I 0,I 0] 33 (0,0)):=by
  have:=heap_alloc_new (w.alloc (.cells #[.string ⟨#[]⟩,.slice none 0 0] 52)) (.cells #[I 0,I 0] 33);simpa using this
 have hcall:=rW _ s (he.new n0) hs;unfold iS at hcall;rw[hA] at hcall;simp only at hcall;have hcode:=fA hA;have HA:=Lib.hid hA;have HN0:=Lib.hid n0;have HB0:=Lib.hid hb0;have HB1:=Lib.hid hb1;clear hA n0 hb0 hb1;obtain⟨it,hit,hz0,hz1,hz2⟩:=info_parts kr;rcases hcode with⟨rfl,rfl,hne,-,-⟩|⟨hc,rfl⟩
 ·have hl:=(qB HA.out)
  have hcnt:=(kw (l:=s.data.toList)).1;rw[HA.out] at hcnt;simp only at hcnt;have hlen:0<l.length:=List.length_pos_iff.2 hne;obtain⟨res,hres⟩:∃r,dv s.data.toList=r:=⟨_,rfl⟩
  rw[hres];have HRES:Hid ((match dj l with| .good x _=>Except.ok x| .bad j=> .error (50,atT l j))=res):=Lib.hid (by rw[<-oT HA.out];exact hres);clear hres hne;have d0:((0:Int) != 0)=false:=by decide
  go_enter_defers Tryz.func23,Tryz.ntmps23
  go_wp2_with fail;refine hcall.mono ?_;rintro e w1 ⟨a,cc,rfl,n1,ho⟩;have hs1:w.heap.size+2<=w1.heap.size:=by have:=n1.size;simp at this;omega
  have hbl:∀g,blk a g->w.heap.size+2<=g∧g<w1.heap.size:=fun g hg=>by
   have:=an ho hg;simp at this;omega
  have hsl:=am.of_owns ho;obtain⟨n,hn⟩:∃n,l.length=n:=⟨_,rfl⟩
  have HN:=Lib.hid hn;obtain⟨W2,hW2⟩:∃W,W=(w1.alloc (.cells #[I 0,I 0] 33)).alloc (.cells #[.slice a n cc,I 0] 95):=⟨_,rfl⟩
  have n2:New w1 W2:=by rw[hW2];exact((New.refl _).alloc _).alloc _
  have hsz2:W2.heap.size=w1.heap.size+2:=by rw[hW2];simp
  have hG:W2.heap[w1.heap.size+1]? =some (.cells #[.slice a l.length cc,I (0:Nat)] 95 (0,0)):=by
   have:=heap_alloc_new (w1.alloc (.cells #[I 0,I 0] 33)) (.cells #[.slice a n cc,I 0] 95);rw[hW2,hn];simpa using this
  have hS0:PsS w (w1.heap.size+1) (w1.heap.size+2) l a cc 0 ⟨⟨#[]⟩,none,0,[]⟩ [] W2:=
   ⟨⟨hG,hsl.new n2,fun h=>by have:=hbl _ h;omega,by omega⟩,⟨Keeps.heap (n1.trans n2) HB0.out (fun h=>h),⟨World.ownsRow_nil _ _ _ _,(fun x hx=>by cases hx),List.Pairwise.nil⟩⟩,Keeps.heap (n1.trans n2) HB1.out (fun h=>h),rfl,(HN0.out.trans n1).trans n2,by omega,by omega,by omega,fun g hg=>by have:=hbl g hg;omega⟩
  obtain⟨f0,-,-,-,hF⟩:=bx (heap_alloc_new w1 (.cells #[I 0,I 0] 33));have HW2:=Lib.hid hW2;have HS0:=Lib.hid hS0;have hnx:=cw W2 _ l a cc 0 hS0.p hlen l[0] (List.getElem?_eq_getElem hlen);have hgt:=List.getElem?_eq_getElem hlen;obtain⟨t,ht⟩:∃t,l[0]=t:=⟨_,rfl⟩
  rw[ht] at hnx hgt;clear ht;obtain⟨so,tx,nu,at_⟩:=t;simp only[f5] at hnx;obtain⟨T,hT⟩:∃T:ByteArray,(⟨tx.toArray⟩:ByteArray)=T:=⟨_,rfl⟩
  rw[hT] at hnx;have htx:=fw tx [103,114,97,112,104];rw[hT] at htx;have HT:=Lib.hid hT;have HG:=Lib.hid hgt;have hlk:=di (so:=1) (b:=fP) hgt;simp only at hlk;have fx:=fun W=>(cS (.int .u8 so) (.string T) (I nu) (I (at_:Int)) W).2.1
  rw[hn];generalize hGG:w1.heap.size+1=G at HS0 hnx;generalize hMM:w1.heap.size+2=M at HS0;have HGG:=Lib.hid hGG;clear hn hsl ho hbl n1 n2 hsz2 hG hS0 hW2 hgt hT hcnt hcall hGG hMM;have hgw:=HS0.out.g1;have hgm:=HS0.out.g2;by_cases hw:tx=fP
  ·have t1:=jA htx hw;clear htx;go_wp2_with fail;rw[HGG.out,<-HW2.out];refine hnx.mono ?_;rintro e w3 ⟨rfl,n3⟩;have HS3:=Lib.hid (HS0.out.new n3);clear hnx HS0 n3 f0 hF;have htk:=dr _ G l a cc 0 1 HS3.out.p hlen;rw[ee HG.out] at htk;by_cases hs1:so=1
   ·subst hs1;rw[if_pos rfl] at htk;have hk1:=hl.next HG.out (by show(1:Int)≠0;decide);rw[decide_eq_true ⟨rfl,hw⟩] at hlk;have HM0:Hid (bW 1 fP l 0= .good () 1):=Lib.hid (by unfold bW;rw[if_pos hlk]);clear hw hlk;go_wp2_with fail;refine htk.mono ?_;rintro e w4 ⟨rfl,hp4,kk4⟩;have HS4:=Lib.hid (HS3.out.call hp4 kk4);have htk:=dr _ G l a cc (0+1) 1 HS4.out.p hk1;clear hp4 kk4 HS3;go_wp2_with fail;refine htk.mono ?_;intro e w5 hq;clear htk;rcases hq.inv with⟨j,hr,rfl,kb⟩|⟨t5,k5,hr,rfl,hp5,kk5⟩
    ·clear hq;obtain⟨hb0,hb1,hN⟩:=HS4.out.bad kb;have HPP:Hid (dj l= .bad j):=Lib.hid (by unfold dj;rw[HM0.out,PR.bind_good,hr,PR.bind_bad]);clear hr kb;go_wp2
     unfold fb;refine leaves_cons (f:=47) (args:=#[.pointer (some ⟨w.heap.size,0,none⟩),.pointer (some ⟨w.heap.size+1,0,none⟩)]) (by simp) (by simp[go_sem]) ?_;refine(dF w5 w.heap.size (w.heap.size+1) _ _ _ _ 50 (atT l j) [] (by omega) hb0 hb1).mono ?_;rintro e u' w'' ⟨rfl,rfl,h0,h1,hk⟩;obtain⟨g0,g1,-,-,-⟩:=bx h0;obtain⟨e0,e1,-,-,-⟩:=bx h1;simp[Leaves,settle,results,Tryz.results23,go_sem,g0,g1,e0,e1];rw[<-HRES.out,HPP.out];exact⟨rfl,hN.keeps hk (fun i hi hb=>by omega)⟩
    ·have HR5:=Lib.hid hr;have hk5:=(hl.take hr (by decide)).1;obtain⟨so5,tx5,nu5,at5⟩:=t5;obtain⟨T5,hT5⟩:∃T:ByteArray,(⟨tx5.toArray⟩:ByteArray)=T:=⟨_,rfl⟩
     simp only[f5,hT5];have HT5:=Lib.hid hT5;have f1:=fun W=>(cS (.int .u8 so5) (.string T5) (I nu5) (I (at5:Int)) W).2.1
     have hS5:=HS4.out.call hp5 kk5;obtain⟨r0,-,z0,-,hR0⟩:=bx hS5.sk.blkP;have HS6:=Lib.hid (hS5.name T5);have hmk:=dc _ G l a cc k5 [123] HS6.out.p hk5;clear hq hr hp5 kk5 HS4 hT5 hS5;go_wp2_with fail;refine hmk.mono ?_;intro e w6 hq;clear hmk r0 z0 hR0;rcases hq.inv with⟨j,hr,rfl,kb⟩|⟨u,k6,hr,rfl,hp6,kk6⟩
     ·clear hq;obtain⟨hb0,hb1,hN⟩:=HS6.out.bad kb;have HPP:Hid (dj l= .bad j):=Lib.hid (by unfold dj;rw[HM0.out,PR.bind_good,HR5.out,PR.bind_good,hr,PR.bind_bad]);clear hr kb;go_wp2
      unfold fb;refine leaves_cons (f:=47) (args:=#[.pointer (some ⟨w.heap.size,0,none⟩),.pointer (some ⟨w.heap.size+1,0,none⟩)]) (by simp) (by simp[go_sem]) ?_;refine(dF w6 w.heap.size (w.heap.size+1) _ _ _ _ 50 (atT l j) [] (by omega) hb0 hb1).mono ?_;rintro e u' w'' ⟨rfl,rfl,h0,h1,hk⟩;obtain⟨g0,g1,-,-,-⟩:=bx h0;obtain⟨e0,e1,-,-,-⟩:=bx h1;simp[Leaves,settle,results,Tryz.results23,go_sem,g0,g1,e0,e1];rw[<-HRES.out,HPP.out];exact⟨rfl,hN.keeps hk (fun i hi hb=>by omega)⟩
     ·have HR6:=Lib.hid hr;have hk6:=(hl.must hr (by decide)).1;have HS7:=Lib.hid (HS6.out.call hp6 kk6);have HPP:Hid (dj l=(dh l.length l k6).bind fun xs k4=>(bW 3 [125] l k4).bind fun _ k5=>(cF 0 l k5).bind fun _ k6=> .good ⟨tx5,xs⟩ k6):=Lib.hid (by unfold dj;rw[HM0.out,PR.bind_good,HR5.out,PR.bind_good,hr,PR.bind_good]);clear hq hr hp6 kk6 HS6 fx f1 HR5 HR6 HM0;go_wp2_with fail;go_loopw [] (fun wr=>∃(k':Nat) (s':Sk) (acc:List LIt) (f:Nat),Hid (PsS w G M l a cc k' s' acc wr)∧Hid (s'.name=T5∧dh l.length l k6=(dh f l k').bind fun xs m=> .good (acc++xs) m)∧k'<l.length∧l.length<=k'+f∧s'.items.length<=k') (fun wr=>l.length-du wr G)
      case atStart=>exact⟨k6,_,[],l.length,HS7,Lib.hid ⟨rfl,by simp only[List.nil_append];cases dh l.length l k6<;>rfl⟩,hk6,by omega,Nat.zero_le _⟩
      case round=>
       clear HS7 hk6;obtain⟨k',s',acc,f,HS,HI,hk',hf,hil⟩:=hrel;obtain⟨f,rfl⟩:∃f',f=f'+1:=⟨f-1,by omega⟩
       have HY:Hid (du wr G=k'):=Lib.hid (by unfold du;rw[HS.out.p.cells.2.1];simp);have hnx:=fun W (n:New wr W)=>cw W G l a cc k' (HS.out.p.new n) hk' l[k'] (List.getElem?_eq_getElem hk')
       have hlk:=di (so:=3) (b:=[125]) (List.getElem?_eq_getElem hk');have hgt:=List.getElem?_eq_getElem hk';obtain⟨t,ht⟩:∃t,l[k']=t:=⟨_,rfl⟩
       rw[ht] at hnx hlk hgt;clear ht;obtain⟨so7,tx7,nu7,at7⟩:=t;obtain⟨T7,hT7⟩:∃T:ByteArray,(⟨tx7.toArray⟩:ByteArray)=T:=⟨_,rfl⟩
       simp only[f5,hT7] at hnx hlk;have htx:=fw tx7 [125];rw[hT7] at htx;have g0:=fun W=>(cS (.int .u8 so7) (.string T7) (I nu7) (I (at7:Int)) W).1
       have g1:=fun W=>(cS (.int .u8 so7) (.string T7) (I nu7) (I (at7:Int)) W).2.1
       clear hT7 hgt;by_cases hend:so7=3∧tx7=[125]
       ·obtain⟨rfl,hte⟩:=hend;have t7:=jA htx hte;rw[decide_eq_true ⟨rfl,hte⟩] at hlk;have hmm:bW 3 [125] l k'= .good () (k'+1):=by unfold bW;rw[if_pos hlk]
        have HIT:Hid (dh l.length l k6= .good acc k'):=Lib.hid (by rw[HI.out.2,dh,if_pos hlk,PR.bind_good,List.append_nil]);have hk8:=(hl.must hmm (by decide)).1;have hmk:=fun W (n:New wr W)=>nD W G l a cc k' (HS.out.p.new n) hk' [125] hmm
        have HMM:=Lib.hid hmm;have d3:((3:Int) != 3)=false:=by decide
        clear htx hte hlk hmm;go_wp2_with fail;refine(hnx _ (New.refl _)).mono ?_;rintro e w7 ⟨rfl,n7⟩;go_wp2_with fail;refine(hnx _ n7).mono ?_;rintro e w8 ⟨rfl,n8⟩;go_wp2_with fail;refine(hmk _ (n7.trans n8)).mono ?_;rintro e w9 ⟨rfl,hp9,kk9⟩;have HS9:=Lib.hid ((HS.out.new (n7.trans n8)).call hp9 kk9);have htk:=dr _ G l a cc (k'+1) 0 HS9.out.p hk8;clear n7 n8 hnx hmk hp9 kk9 HS;go_wp2_with fail;refine htk.mono ?_;intro e w10 hq;clear htk;rcases hq.inv with⟨j,hr,rfl,kb⟩|⟨t9,k9,hr,rfl,hp10,kk10⟩
        ·clear hq;obtain⟨hb0,hb1,hN⟩:=HS9.out.bad kb;have HPQ:Hid (dj l= .bad j):=Lib.hid (by rw[HPP.out,HIT.out,PR.bind_good,HMM.out,PR.bind_good,hr,PR.bind_bad]);clear hr kb;go_wp2
         unfold fb;refine leaves_cons (f:=47) (args:=#[.pointer (some ⟨w.heap.size,0,none⟩),.pointer (some ⟨w.heap.size+1,0,none⟩)]) (by simp) (by simp[go_sem]) ?_;refine(dF w10 w.heap.size (w.heap.size+1) _ _ _ _ 50 (atT l j) [] (by omega) hb0 hb1).mono ?_;rintro e u' w'' ⟨rfl,rfl,h0,h1,hk⟩;obtain⟨g0,g1,-,-,-⟩:=bx h0;obtain⟨e0,e1,-,-,-⟩:=bx h1;simp[Leaves,settle,results,Tryz.results23,go_sem,g0,g1,e0,e1];rw[<-HRES.out,HPQ.out];exact⟨rfl,hN.keeps hk (fun i hi hb=>by omega)⟩
        ·have HPQ:Hid (dj l= .good ⟨tx5,acc⟩ k9):=Lib.hid (by rw[HPP.out,HIT.out,PR.bind_good,HMM.out,PR.bind_good,hr,PR.bind_good]);have hS10:=HS9.out.call hp10 kk10;obtain⟨r0,r1,z0,z1,hR0⟩:=bx hS10.sk.blkP;obtain⟨e0,e1,y0,y1,hR1⟩:=bx hS10.f;have HS10:=Lib.hid hS10;clear hq hr hp10 kk10 HS9 hS10;go_wp2_with fail;have hS10:=HS10.out;obtain⟨b0,k0⟩:=iI hS10.sk.blkP (.string s'.name) (.slice s'.ia s'.items.length s'.ic);have h1':=k0.heap hS10.f (by omega);obtain⟨b1,k1⟩:=iI h1' (I 0) (I 0);have b0':=k1.heap b0 (by omega);have kd:=((k0.mono (T:=fun k=>k=w.heap.size∨k=w.heap.size+1) (fun _ _ h=> .inl h)).trans k1 (fun _ _ h=> .inr h))
         have hfin:=hS10.nw.keeps kd (fun i hi h=>by rcases h with h|h<;>omega);have hown:=(hS10.sk.own.oth kd (fun g hg=>by
          rcases hg with rfl|rfl
          ·exact⟨_,_,_,hS10.sk.blkP,by decide,by decide⟩
          ·exact⟨_,_,_,hS10.f,by decide,by decide⟩)).base (B':=w.heap.size) (by have:=hS10.g1;have:=hS10.g2;omega)
         clear k0 b0 kd h1' k1 r0 r1 z0 z1 hR0 e0 e1 y0 y1 hR1 HS10;obtain⟨wf,hwf⟩:∃x,x=((((w10.setCell ⟨w.heap.size,0,none⟩ (.string s'.name)).setCell ⟨w.heap.size,1,none⟩ (.slice s'.ia s'.items.length s'.ic)).setCell ⟨w.heap.size+1,0,none⟩ (I 0)).setCell ⟨w.heap.size+1,1,none⟩ (I 0)):=⟨_,rfl⟩
         rw[<-hwf] at b0' b1 hfin hown ⊢;clear hwf;obtain⟨c0,c1,-,-,-⟩:=bx b0';obtain⟨e0,e1,-,-,-⟩:=bx b1;refine leaves_cons (f:=47) (args:=#[.pointer (some ⟨w.heap.size,0,none⟩),.pointer (some ⟨w.heap.size+1,0,none⟩)]) (by simp) (by simp[go_sem]) ?_;refine(mw wf _ _).mono ?_;rintro e u' w'' ⟨rfl,rfl,rfl⟩;simp[Leaves,settle,results,Tryz.results23,go_sem,c0,c1,e0,e1];rw[<-HRES.out,HPQ.out];refine⟨s',?_,rfl,hown,hfin⟩;unfold Sk.bare LSk.mem;rw[hS10.it,HI.out.1,HT5.out]
       ·have hlf:ge 3 [125] l k'=false:=by rw[hlk];exact decide_eq_false hend
        have HLF:=Lib.hid hlf;have HIX:Hid (dh l.length l k6=(bU l k').bind fun x k1=>(dh f l k1).bind fun xs m=> .good ((acc++[x])++xs) m):=Lib.hid (by
         rw[HI.out.2,dh,if_neg (by rw[hlf];decide),PR.bind_assoc];congr 1;funext x k1
         rw[PR.bind_assoc];congr 1;funext xs m
         simp)
        have hN:∃z:Bool,z=decide (so7=3):=⟨_,rfl⟩
        clear hlf hlk hN;by_cases h3:so7=3
        ·subst h3;have t7:=fo htx (fun h=>hend ⟨rfl,h⟩);have d3:((3:Int) != 3)=false:=by decide
         clear htx hend;go_wp2_with fail;refine(hnx _ (New.refl _)).mono ?_;rintro e w7 ⟨rfl,n7⟩;go_wp2_with fail;refine(hnx _ n7).mono ?_;rintro e w8 ⟨rfl,n8⟩;have HS8:=Lib.hid (HS.out.new (n7.trans n8));clear n7 n8 hnx HS;go_wp2_with fail;have hS8:=HS8.out.new ((New.refl w8).drew);have hdr:New w8 w8.drew:=(New.refl w8).drew;obtain⟨-,p1,-,-,hPl⟩:=bx hS8.sk.blkP;have hS0:(fun w':World=>w'.cell? ⟨w.heap.size,1,none⟩=some (.slice s'.ia s'.items.length s'.ic)) w8.drew:=p1;have hpi:=lQ w8.drew G l a cc k' hl hS8.p hk';clear p1 hPl;refine ar (fun w':World=>w'.cell? ⟨w.heap.size,1,none⟩=some (.slice s'.ia s'.items.length s'.ic)) [5,6,7] (by kernel_rfl) hS0 ?_;refine aV 0 (by kernel_rfl) (by kernel_rfl) (by kernel_rfl) (by kernel_rfl) (by kernel_rfl) hS0 ?_;intro oi ho;simp only[sLq] at ho;subst ho;refine⟨?_,fun c a w h=>eZ (fC _ _ _ (by decide) (by decide)) a.defers (.panicking c) w h,Or.inl ⟨by rfl,?_⟩,?_⟩;rotate_left 1
         ·(intro wS hSw;(try dsimp only at hSw);go_simp;try with_reducible rfl)
         simp only[Act.put,sLs];refine aV 1 (by kernel_rfl) (by kernel_rfl) (by kernel_rfl) (by kernel_rfl) (by kernel_rfl) hS0 ?_;intro oi ho;simp only[sLq] at ho;subst ho;refine⟨?_,fun c a w h=>eZ (fC _ _ _ (by decide) (by decide)) a.defers (.panicking c) w h,Or.inl ⟨by rfl,?_⟩,?_⟩;rotate_left 1
         ·(intro wS hSw;(try dsimp only at hSw);go_simp;try with_reducible rfl)
         simp only[Act.put,sLs];refine aV 2 (by kernel_rfl) (by kernel_rfl) (by kernel_rfl) (by kernel_rfl) (by kernel_rfl) hS0 ?_;intro oi ho;simp only[sLq] at ho;subst ho;refine⟨?_,fun c a w h=>eZ (fC _ _ _ (by decide) (by decide)) a.defers (.panicking c) w h,Or.inl ⟨by rfl,?_⟩,?_⟩;rotate_left 1
         ·(intro wS hSw;(try dsimp only at hSw);go_simp;try with_reducible rfl)
         simp only[Act.put,sLs];refine ah 3 ?_;intro K hK;(try simp only[Act.put,sLs])
         go_simp;refine hpi.mono ?_;intro e w9 hq;unfold er at hq;cases hr:bU l k' with
         |bad j=>
          rw[hr] at hq;obtain⟨rfl,kb⟩:=hq;obtain⟨hb0,hb1,hN⟩:=hS8.bad kb;have HPQ:Hid (dj l= .bad j):=Lib.hid (by rw[HPP.out,HIX.out,hr,PR.bind_bad,PR.bind_bad]);clear hr kb hS0 hpi hS8;simp only[Exit.then,bodyPostD];unfold fb;refine leaves_cons (f:=47) (args:=#[.pointer (some ⟨w.heap.size,0,none⟩),.pointer (some ⟨w.heap.size+1,0,none⟩)]) (by simp) (by simp[go_sem]) ?_;refine(dF w9 w.heap.size (w.heap.size+1) _ _ _ _ 50 (atT l j) [] (by omega) hb0 hb1).mono ?_;rintro e u' w'' ⟨rfl,rfl,h0,h1,hk⟩;obtain⟨g0,g1,-,-,-⟩:=bx h0;obtain⟨e0,e1,-,-,-⟩:=bx h1;simp[Leaves,settle,results,Tryz.results23,go_sem,g0,g1,e0,e1];rw[<-HRES.out,HPQ.out];exact⟨rfl,hN.keeps hk (fun i hi hb=>by omega)⟩
         |good x k9=>
         rw[hr] at hq;obtain⟨ao,co,rfl,hox,hp9,kk9⟩:=hq;have hk9:=hl.item hr;have HIN:Hid (dh l.length l k6=(dh f l k9).bind fun xs m=> .good ((acc++[x])++xs) m):=Lib.hid (by rw[HIX.out,hr,PR.bind_good]);have hS1:(fun w':World=>w'.cell? ⟨w.heap.size,1,none⟩=some (.slice s'.ia s'.items.length s'.ic)) w9:=kk9.cell hS0 (by show w.heap.size≠G;omega);have HXS:=Lib.hid hS8;have HOX:=Lib.hid hox;have HPX:=Lib.hid (And.intro hp9 kk9);refine hK _ _ (fun _=>hS1) ?_;clear hK K hr hpi hS0 hox hp9 kk9 hS8;refine ah 4 ?_;intro K hK;(try simp only[Act.put,sLs])
         go_simp;have kl:New w9 (w9.alloc (.cells (itA (x.mem ao co)) ItT)):=(New.refl w9).alloc _;have hlit:am (w9.alloc (.cells (itA (x.mem ao co)) ItT)) (some ⟨w9.heap.size,0,none⟩) (aS (x.mem ao co)):=am.lit w9 _ _;refine hK _ _ (fun _=>New.cell kl hS1) ?_;clear hK K hS1;generalize(w9.alloc (.cells (itA (x.mem ao co)) ItT))=VZ at kl hlit ⊢;generalize w9.heap.size=Z at hlit ⊢;refine ah 5 ?_;intro K hK;refine cR rfl _ _ 50 rfl M ItT it _ 11 136 Tryz.underlying50 hit hz0 hz1 hz2 rfl (by decide) s'.ia s'.items.length s'.ic (s'.items.flatMap aS) rfl (((HXS.out.call HPX.out.1 HPX.out.2).new kl).sk.own.io) (some ⟨Z,0,none⟩) 1 1 (aS (x.mem ao co)) rfl rfl hlit (gm _) (by have:=HXS.out.p.le;unfold maxLen;omega) (by have:=HXS.out.p.le;omega) ((HXS.out.call HPX.out.1 HPX.out.2).new kl).hM ?_;intro a9 c9 wc hown9 hk9' hmv;obtain⟨⟨hv0,hfz,hPl2⟩,hSn⟩:=HXS.out.add HPX.out.1 HPX.out.2 x HOX.out kl hown9 hk9';have HSn:=Lib.hid hSn;refine hK _ _ (fun hx=>by cases hx) ?_;clear hK K hSn hown9 hk9' hmv hlit kl;refine ah 6 ?_;intro K hK;(try simp only[Act.put,sLs])
         go_simp;refine hK _ _ (fun hx=>by cases hx) ?_;clear hK K;refine ah 7 ?_;intro K hK;(try simp only[Act.put,sLs])
         go_simp;refine hK _ _ (fun hx=>by cases hx) ?_;clear hK K;refine aB (by kernel_rfl) ?_;(try simp only[Act.put,sLs])
         (try simp only[Exit.then])
         go_wp2_with fail;go_roundw
         case rel=>exact⟨k9,_,acc++[x],f,HSn,Lib.hid ⟨HI.out.1,HIN.out⟩,hk9.1,by omega,by rw[List.length_append];simp only[List.length_singleton];omega⟩
         case measure=>
          rw[pB HSn.out.p,HY.out];omega
        ·have d3:(so7 != 3)=true:=by simpa using h3
         clear htx hend;go_wp2_with fail;refine(hnx _ (New.refl _)).mono ?_;rintro e w8 ⟨rfl,n8⟩;have HS8:=Lib.hid (HS.out.new n8);clear n8 hnx HS;go_wp2_with fail;have hS8:=HS8.out.new ((New.refl w8).drew);have hdr:New w8 w8.drew:=(New.refl w8).drew;obtain⟨-,p1,-,-,hPl⟩:=bx hS8.sk.blkP;have hS0:(fun w':World=>w'.cell? ⟨w.heap.size,1,none⟩=some (.slice s'.ia s'.items.length s'.ic)) w8.drew:=p1;have hpi:=lQ w8.drew G l a cc k' hl hS8.p hk';clear p1 hPl;refine ar (fun w':World=>w'.cell? ⟨w.heap.size,1,none⟩=some (.slice s'.ia s'.items.length s'.ic)) [5,6,7] (by kernel_rfl) hS0 ?_;refine aV 0 (by kernel_rfl) (by kernel_rfl) (by kernel_rfl) (by kernel_rfl) (by kernel_rfl) hS0 ?_;intro oi ho;simp only[sLq] at ho;subst ho;refine⟨?_,fun c a w h=>eZ (fC _ _ _ (by decide) (by decide)) a.defers (.panicking c) w h,Or.inl ⟨by rfl,?_⟩,?_⟩;rotate_left 1
         ·(intro wS hSw;(try dsimp only at hSw);go_simp;try with_reducible rfl)
         simp only[Act.put,sLs];refine aV 1 (by kernel_rfl) (by kernel_rfl) (by kernel_rfl) (by kernel_rfl) (by kernel_rfl) hS0 ?_;intro oi ho;simp only[sLq] at ho;subst ho;refine⟨?_,fun c a w h=>eZ (fC _ _ _ (by decide) (by decide)) a.defers (.panicking c) w h,Or.inl ⟨by rfl,?_⟩,?_⟩;rotate_left 1
         ·(intro wS hSw;(try dsimp only at hSw);go_simp;try with_reducible rfl)
         simp only[Act.put,sLs];refine aV 2 (by kernel_rfl) (by kernel_rfl) (by kernel_rfl) (by kernel_rfl) (by kernel_rfl) hS0 ?_;intro oi ho;simp only[sLq] at ho;subst ho;refine⟨?_,fun c a w h=>eZ (fC _ _ _ (by decide) (by decide)) a.defers (.panicking c) w h,Or.inl ⟨by rfl,?_⟩,?_⟩;rotate_left 1
         ·(intro wS hSw;(try dsimp only at hSw);go_simp;try with_reducible rfl)
         simp only[Act.put,sLs];refine ah 3 ?_;intro K hK;(try simp only[Act.put,sLs])
         go_simp;refine hpi.mono ?_;intro e w9 hq;unfold er at hq;cases hr:bU l k' with
         |bad j=>
          rw[hr] at hq;obtain⟨rfl,kb⟩:=hq;obtain⟨hb0,hb1,hN⟩:=hS8.bad kb;have HPQ:Hid (dj l= .bad j):=Lib.hid (by rw[HPP.out,HIX.out,hr,PR.bind_bad,PR.bind_bad]);clear hr kb hS0 hpi hS8;simp only[Exit.then,bodyPostD];unfold fb;refine leaves_cons (f:=47) (args:=#[.pointer (some ⟨w.heap.size,0,none⟩),.pointer (some ⟨w.heap.size+1,0,none⟩)]) (by simp) (by simp[go_sem]) ?_;refine(dF w9 w.heap.size (w.heap.size+1) _ _ _ _ 50 (atT l j) [] (by omega) hb0 hb1).mono ?_;rintro e u' w'' ⟨rfl,rfl,h0,h1,hk⟩;obtain⟨g0,g1,-,-,-⟩:=bx h0;obtain⟨e0,e1,-,-,-⟩:=bx h1;simp[Leaves,settle,results,Tryz.results23,go_sem,g0,g1,e0,e1];rw[<-HRES.out,HPQ.out];exact⟨rfl,hN.keeps hk (fun i hi hb=>by omega)⟩
         |good x k9=>
         rw[hr] at hq;obtain⟨ao,co,rfl,hox,hp9,kk9⟩:=hq;have hk9:=hl.item hr;have HIN:Hid (dh l.length l k6=(dh f l k9).bind fun xs m=> .good ((acc++[x])++xs) m):=Lib.hid (by rw[HIX.out,hr,PR.bind_good]);have hS1:(fun w':World=>w'.cell? ⟨w.heap.size,1,none⟩=some (.slice s'.ia s'.items.length s'.ic)) w9:=kk9.cell hS0 (by show w.heap.size≠G;omega);have HXS:=Lib.hid hS8;have HOX:=Lib.hid hox;have HPX:=Lib.hid (And.intro hp9 kk9);refine hK _ _ (fun _=>hS1) ?_;clear hK K hr hpi hS0 hox hp9 kk9 hS8;refine ah 4 ?_;intro K hK;(try simp only[Act.put,sLs])
         go_simp;have kl:New w9 (w9.alloc (.cells (itA (x.mem ao co)) ItT)):=(New.refl w9).alloc _;have hlit:am (w9.alloc (.cells (itA (x.mem ao co)) ItT)) (some ⟨w9.heap.size,0,none⟩) (aS (x.mem ao co)):=am.lit w9 _ _;refine hK _ _ (fun _=>New.cell kl hS1) ?_;clear hK K hS1;generalize(w9.alloc (.cells (itA (x.mem ao co)) ItT))=VZ at kl hlit ⊢;generalize w9.heap.size=Z at hlit ⊢;refine ah 5 ?_;intro K hK;refine cR rfl _ _ 50 rfl M ItT it _ 11 136 Tryz.underlying50 hit hz0 hz1 hz2 rfl (by decide) s'.ia s'.items.length s'.ic (s'.items.flatMap aS) rfl (((HXS.out.call HPX.out.1 HPX.out.2).new kl).sk.own.io) (some ⟨Z,0,none⟩) 1 1 (aS (x.mem ao co)) rfl rfl hlit (gm _) (by have:=HXS.out.p.le;unfold maxLen;omega) (by have:=HXS.out.p.le;omega) ((HXS.out.call HPX.out.1 HPX.out.2).new kl).hM ?_;intro a9 c9 wc hown9 hk9' hmv;obtain⟨⟨hv0,hfz,hPl2⟩,hSn⟩:=HXS.out.add HPX.out.1 HPX.out.2 x HOX.out kl hown9 hk9';have HSn:=Lib.hid hSn;refine hK _ _ (fun hx=>by cases hx) ?_;clear hK K hSn hown9 hk9' hmv hlit kl;refine ah 6 ?_;intro K hK;(try simp only[Act.put,sLs])
         go_simp;refine hK _ _ (fun hx=>by cases hx) ?_;clear hK K;refine ah 7 ?_;intro K hK;(try simp only[Act.put,sLs])
         go_simp;refine hK _ _ (fun hx=>by cases hx) ?_;clear hK K;refine aB (by kernel_rfl) ?_;(try simp only[Act.put,sLs])
         (try simp only[Exit.then])
         go_wp2_with fail;go_roundw
         case rel=>exact⟨k9,_,acc++[x],f,HSn,Lib.hid ⟨HI.out.1,HIN.out⟩,hk9.1,by omega,by rw[List.length_append];simp only[List.length_singleton];omega⟩
         case measure=>
          rw[pB HSn.out.p,HY.out];omega
   ·rw[if_neg hs1] at htk;rw[decide_eq_false (fun h=>hs1 h.1)] at hlk;have HPP:Hid (dj l= .bad 0):=Lib.hid (by unfold dj bW;rw[if_neg (by rw[hlk];decide)];rfl);clear hw hlk;go_wp2_with fail;refine htk.mono ?_;rintro e w4 ⟨rfl,kb⟩;obtain⟨hb0,hb1,hN⟩:=HS3.out.bad kb;clear kb htk HS3;go_wp2
    unfold fb;refine leaves_cons (f:=47) (args:=#[.pointer (some ⟨w.heap.size,0,none⟩),.pointer (some ⟨w.heap.size+1,0,none⟩)]) (by simp) (by simp[go_sem]) ?_;refine(dF w4 w.heap.size (w.heap.size+1) _ _ _ _ 50 (atT l 0) [] (by omega) hb0 hb1).mono ?_;rintro e u' w'' ⟨rfl,rfl,h0,h1,hk⟩;obtain⟨g0,g1,-,-,-⟩:=bx h0;obtain⟨e0,e1,-,-,-⟩:=bx h1;simp[Leaves,settle,results,Tryz.results23,go_sem,g0,g1,e0,e1];rw[<-HRES.out,HPP.out];exact⟨rfl,hN.keeps hk (fun i hi hb=>by omega)⟩
  ·have t1:=fo htx hw;rw[decide_eq_false (fun h=>hw h.2)] at hlk;have HPP:Hid (dj l= .bad 0):=Lib.hid (by unfold dj bW;rw[if_neg (by rw[hlk];decide)];rfl);clear htx hw hlk;go_wp2_with fail;rw[HGG.out,<-HW2.out];refine hnx.mono ?_;rintro e w3 ⟨rfl,n3⟩;have HS3:=Lib.hid (HS0.out.new n3);have hwr:=fU _ G l a cc 0 HS3.out.p hlen;clear hnx HS0 n3 f0 hF;go_wp2_with fail;refine hwr.mono ?_;rintro e w4 ⟨rfl,n4⟩;obtain⟨hb0,hb1,hN⟩:=HS3.out.bad (KN n4);clear n4 hwr HS3;go_wp2
   unfold fb;refine leaves_cons (f:=47) (args:=#[.pointer (some ⟨w.heap.size,0,none⟩),.pointer (some ⟨w.heap.size+1,0,none⟩)]) (by simp) (by simp[go_sem]) ?_;refine(dF w4 w.heap.size (w.heap.size+1) _ _ _ _ 50 (atT l 0) [] (by omega) hb0 hb1).mono ?_;rintro e u' w'' ⟨rfl,rfl,h0,h1,hk⟩;obtain⟨g0,g1,-,-,-⟩:=bx h0;obtain⟨e0,e1,-,-,-⟩:=bx h1;simp[Leaves,settle,results,Tryz.results23,go_sem,g0,g1,e0,e1];rw[<-HRES.out,HPP.out];exact⟨rfl,hN.keeps hk (fun i hi hb=>by omega)⟩
 ·have hc0:c≠0:=by rcases hc with⟨rfl,_⟩|⟨rfl|rfl|rfl,_⟩<;>decide
  have hc1:(c != 0)=true:=by simpa using hc0
  rw[oS HA.out hc0];clear hc hc0;go_enter_defers Tryz.func23,Tryz.ntmps23
  go_wp2_with fail;refine hcall.mono ?_;rintro e w1 ⟨a,cc,rfl,n1,-⟩;have hb0:=Keeps.heap (n1.trans ((New.refl _).alloc (.cells #[I c,I k] 33))) HB0.out (fun h=>h);have hb1:=Keeps.heap (n1.trans ((New.refl _).alloc (.cells #[I c,I k] 33))) HB1.out (fun h=>h);have hbF:=heap_alloc_new w1 (.cells #[I c,I k] 33);obtain⟨g0,g1,z0,z1,hR0⟩:=bx hb0;obtain⟨e0,e1,y0,y1,hR1⟩:=bx hb1;obtain⟨f0,f1,-,-,hF⟩:=bx hbF;have hN:=Lib.hid ((HN0.out.trans n1).trans ((New.refl _).alloc (.cells #[I c,I k] 33)));have B0:=Lib.hid hb0;have B1:=Lib.hid hb1;have hs1:w.heap.size+2<=w1.heap.size:=by have:=n1.size;simp at this;omega
  have q1:w1.heap.size≠w.heap.size:=by omega
  have q2:w.heap.size≠w1.heap.size:=by omega
  have q3:w1.heap.size≠w.heap.size+1:=by omega
  have q4:w.heap.size+1≠w1.heap.size:=by omega
  clear hb0 hb1 hbF n1;go_wp2_with fail;go_region
  obtain⟨b0,k0⟩:=iI B0.out (.string ⟨#[]⟩) (.slice none 0 0);have h1':=k0.heap B1.out (by omega);obtain⟨b1,k1⟩:=iI h1' (I c) (I k);have b0':=k1.heap b0 (by omega);have kd:=(((k0.mono (T:=fun k=>k=w.heap.size∨k=w.heap.size+1) (fun _ _ h=> .inl h)).trans k1 (fun _ _ h=> .inr h)).trans (Keeps.drew (S:=fun _=>False) _) (fun _ _ h=>h.elim))
  have hfin:=hN.out.keeps kd (fun i hi h=>by rcases h with h|h<;>omega);clear k0 b0 kd h1' g0 g1 z0 z1 e0 e1 y0 y1 f0 f1 hF hR0 hR1;obtain⟨wf,hwf⟩:∃x,x=(((((w1.alloc (.cells #[I c,I k] 33)).setCell ⟨w.heap.size,0,none⟩ (.string ⟨#[]⟩)).setCell ⟨w.heap.size,1,none⟩ (.slice none 0 0)).setCell ⟨w.heap.size+1,0,none⟩ (I c)).setCell ⟨w.heap.size+1,1,none⟩ (I k)).drew:=⟨_,rfl⟩
  have b2:wf.heap[w.heap.size]? =some (.cells #[.string ⟨#[]⟩,.slice none 0 0] 52 (0,0)):=by rw[hwf];exact b0'
  have b3:wf.heap[w.heap.size+1]? =some (.cells #[I c,I k] 33 (0,0)):=by rw[hwf];exact b1
  rw[<-hwf] at hfin ⊢;clear hwf b0' b1;obtain⟨c0,c1,-,-,-⟩:=bx b2;obtain⟨d0,d1,-,-,-⟩:=bx b3;simp only[Exit.then];go_wp2_with fail;simp[bodyPostD,Leaves,settle,results,Tryz.results23,go_sem,c0,c1,d0,d1];exact⟨rfl,hfin⟩
end Go.Proofs.YtnedmonlofbahaaGreatDoor
