/-
  GrC, GrD, GrE, GrF: what is wanted of them.
-/
import Derived.Test.YtnedmonlofbahaaGreatDoorGwA
namespace Go.Proofs.YtnedmonlofbahaaGreatDoor
open Go Go.RowKit Go.Joins
set_option linter.all false
def bs (x:GAct):List Value:=[.string x.name,.int .u8 x.tag,.slice x.a x.xs.length x.c]
def aZ (x:GEdge):List Value:=[I x.f,I x.fp,I x.t,I x.tp,.slice x.a x.xs.length x.c]
def aJ (x:GPort):List Value:=[.string x.name,I x.ac,I x.po]
abbrev Gr.cs (g:Gr):Array Value:=#[.string g.name,.slice g.aa g.acts.length g.ac,.slice g.ea g.edges.length g.ec,.slice g.ia g.ins.length g.ic,.slice g.oa g.outs.length g.oc]
abbrev Gr.v (g:Gr):Value:= .agg g.cs
structure GrAt (w:World) (g:Gr):Prop where
 sa:am w g.aa (g.acts.flatMap bs)
 se:am w g.ea (g.edges.flatMap aZ)
 si:am w g.ia (g.ins.flatMap aJ)
 so:am w g.oa (g.outs.flatMap aJ)
 ax:∀x∈g.acts,am w x.a (Is x.xs)
 ex:∀x∈g.edges,am w x.a (Is x.xs)
theorem GrAt.new {w w':World} {g:Gr} (h:GrAt w g) (k:New w w'):GrAt w' g:=⟨h.sa.new k,h.se.new k,h.si.new k,h.so.new k,fun x hx=>(h.ax x hx).new k,fun x hx=>(h.ex x hx).new k⟩
structure GLen (g:Gr):Prop where
 a:g.acts.length<=9223372036854775807
 e:g.edges.length<=9223372036854775807
 i:g.ins.length<=9223372036854775807
 o:g.outs.length<=9223372036854775807
 ax:∀x∈g.acts,x.xs.length<=9223372036854775807∧x.name.size<=9223372036854775807
 ex:∀x∈g.edges,x.xs.length<=9223372036854775807
 ix:∀x∈g.ins,x.name.size<=9223372036854775807
 ox:∀x∈g.outs,x.name.size<=9223372036854775807
 n:g.name.size<=9223372036854775807
theorem cM {w:World} {ao:Option Addr} {l:List GAct} (h:am w ao (l.flatMap bs)) {i:Nat} (hi:i<l.length):
  ∃b off,ao=some ⟨b,off,none⟩∧w.cell? ⟨b,off+i*3,none⟩=some (.string l[i].name)∧w.cell? ⟨b,off+i*3+1,none⟩=some (.int .u8 l[i].tag)∧w.cell? ⟨b,off+i*3+2,none⟩=some (.slice l[i].a l[i].xs.length l[i].c):=by
 obtain⟨b,off,e,k⟩:=kU (n:=3) (fun _=>rfl) (by decide) h hi;exact⟨b,off,e,k 0 (by decide),k 1 (by decide),k 2 (by decide)⟩
theorem cK {w:World} {ao:Option Addr} {l:List GEdge} (h:am w ao (l.flatMap aZ)) {i:Nat} (hi:i<l.length):
  ∃b off,ao=some ⟨b,off,none⟩∧w.cell? ⟨b,off+i*5,none⟩=some (I l[i].f)∧w.cell? ⟨b,off+i*5+1,none⟩=some (I l[i].fp)∧w.cell? ⟨b,off+i*5+2,none⟩=some (I l[i].t)∧w.cell? ⟨b,off+i*5+3,none⟩=some (I l[i].tp)∧w.cell? ⟨b,off+i*5+4,none⟩=some (.slice l[i].a l[i].xs.length l[i].c):=by
 obtain⟨b,off,e,k⟩:=kU (n:=5) (fun _=>rfl) (by decide) h hi;exact⟨b,off,e,k 0 (by decide),k 1 (by decide),k 2 (by decide),k 3 (by decide),k 4 (by decide)⟩
theorem cP {w:World} {ao:Option Addr} {l:List GPort} (h:am w ao (l.flatMap aJ)) {i:Nat} (hi:i<l.length):
  ∃b off,ao=some ⟨b,off,none⟩∧w.cell? ⟨b,off+i*3,none⟩=some (.string l[i].name)∧w.cell? ⟨b,off+i*3+1,none⟩=some (I l[i].ac)∧w.cell? ⟨b,off+i*3+2,none⟩=some (I l[i].po):=by
 obtain⟨b,off,e,k⟩:=kU (n:=3) (fun _=>rfl) (by decide) h hi;exact⟨b,off,e,k 0 (by decide),k 1 (by decide),k 2 (by decide)⟩
theorem fJ {α:Type} {p:α->Bool} {l:List α} {k:Nat} (hk:k<l.length) (h:(l.take k).any p=false) (hx:p l[k]=false):(l.take (k+1)).any p=false:=by
 rw[List.take_succ_eq_append_getElem hk,List.any_append,h];simp[hx]
theorem gO {α:Type} {p:α->Bool} {l:List α} {k e:Nat} (hk:k<l.length) (hke:k<e) (hx:p l[k]=true):(l.take e).any p=true:=
 List.any_eq_true.2 ⟨l[k],by rw[List.mem_take_iff_getElem];exact⟨k,by omega,rfl⟩,hx⟩
set_option maxRecDepth 100000 in
set_option maxHeartbeats 4000000 in
theorem i8 (w:World) (g:Gr) (e o:Nat) (a p:Int) (hg:GrAt w g) (hl:GLen g) (he:e<=g.edges.length) (ho:o<=g.outs.length):
  Calls Tryz.prog 136 #[g.v,I e,I o,I a,I p] w fun en w'=>en= .returned (.bool (aU g e o a p))∧New w w':=by
 obtain⟨A,hA⟩:∃A,aU g e o a p=A:=⟨_,rfl⟩
 rw[hA];unfold aU at hA;have HA:=Lib.hid hA;have hse:=hg.se;have hso:=hg.so;have hle:=hl.e;have hlo:=hl.o;clear hA hg hl;obtain⟨gname,gaa,gac,gacts,gea,gec,gedges,gia,gic,gins,goa,goc,gouts⟩:=g;simp only at*;simp only[Gr.v,Gr.cs];go_enter Tryz.func136,Tryz.ntmps136;go_wp2_with fail;have hN0:New w (w.alloc (.cells #[.string gname,.slice gaa gacts.length gac,.slice gea gedges.length gec,.slice gia gins.length gic,.slice goa gouts.length goc] 26)):=(New.refl w).alloc _;have hbx:(w.alloc (.cells #[.string gname,.slice gaa gacts.length gac,.slice gea gedges.length gec,.slice gia gins.length gic,.slice goa gouts.length goc] 26)).heap[w.heap.size]? =some (.cells #[.string gname,.slice gaa gacts.length gac,.slice gea gedges.length gec,.slice gia gins.length gic,.slice goa gouts.length goc] 26 (0,0)):=heap_alloc_new w _;generalize(w.alloc (.cells #[.string gname,.slice gaa gacts.length gac,.slice gea gedges.length gec,.slice gia gins.length gic,.slice goa gouts.length goc] 26))=w0 at hN0 hbx ⊢;have x2:w0.cell? ⟨w.heap.size,2,none⟩=some (.slice gea gedges.length gec):=by rw[cell_of_block hbx 2];simp
 have x4:w0.cell? ⟨w.heap.size,4,none⟩=some (.slice goa gouts.length goc):=by rw[cell_of_block hbx 4];simp
 clear hbx;go_loopw [11] (fun i wr=>∃k:Nat,k<=e∧i= .int .i64 k∧Hid ((gedges.take k).any (fun x=>decide (x.f=a∧x.fp=p))=false)∧New w0 wr) (fun i _=>e-(intOf i).toNat)
 case atStart=>exact⟨0,by omega,rfl,Lib.hid (by simp),New.refl _⟩
 case round=>
  obtain⟨k,hk,rfl,HZ,hN⟩:=hrel;have y:=hN.cell x2;by_cases hk1:k<e
  ·have hk2:k<gedges.length:=by omega
   obtain⟨b,off,hab,q0,q1,q2,q3,q4⟩:=cK (hse.new (hN0.trans hN)) hk2;have hk3:(k:Int)<(e:Int):=by omega
   have hk4:(k:Int)<(gedges.length:Int):=by omega
   have hk5:decide (k<e)=true:=decide_eq_true hk1;have hbw:b<wr.heap.size:=World.block_lt_of_cell? wr _ q0;rw[hab] at y;clear hab;have HIT:Hid (decide (gedges[k].f=a∧gedges[k].fp=p)=true->A=true):=Lib.hid (fun hx=>by
    rw[<-HA.out,gO (l:=gedges) (p:=fun x=>decide (x.f=a∧x.fp=p)) hk2 hk1 hx];simp)
   have NXT:Hid (decide (gedges[k].f=a∧gedges[k].fp=p)=false->(gedges.take (k+1)).any (fun x=>decide (x.f=a∧x.fp=p))=false):=Lib.hid (fun hx=>fJ (p:=fun x=>decide (x.f=a∧x.fp=p)) hk2 HZ.out hx);generalize gedges[k]=x at q0 q1 q2 q3 q4 HIT NXT;by_cases h1:x.f=a
   ·have e1:(x.f==a)=true:=by simpa using h1
    by_cases h2:x.fp=p
    ·have e2:(x.fp==p)=true:=by simpa using h2
     have HT:=Lib.hid (HIT.out (decide_eq_true ⟨h1,h2⟩));clear h1 h2 NXT HIT;go_wp2_with fail;go_ret
     exact⟨by rw[HT.out];rfl,hN0.trans hN⟩
    ·have e2:(x.fp==p)=false:=by simpa using h2
     have HF:=Lib.hid (NXT.out (decide_eq_false (fun h=>h2 h.2)));clear h1 h2 NXT HIT;go_wp2_with fail;go_roundw
     case rel=>exact⟨k+1,by omega,by go_num,HF,hN⟩
     case measure=>simp[intOf];omega
   ·have e1:(x.f==a)=false:=by simpa using h1
    have HF:=Lib.hid (NXT.out (decide_eq_false (fun h=>h1 h.1)));clear h1 NXT HIT;go_wp2_with fail;go_roundw
    case rel=>exact⟨k+1,by omega,by go_num,HF,hN⟩
    case measure=>simp[intOf];omega
  ·have hke:k=e:=by omega
   have hd9:decide (k<e)=false:=decide_eq_false hk1;rw[hke] at HZ;clear hke hk hk1;have HZ1:=HZ;have hN1:=hN0.trans hN;have x4':=hN.cell x4;clear HZ y;go_wp2_with fail;obtain⟨wo,rfl⟩:∃wo,wo=wr:=⟨_,rfl⟩
   clear hN0 hN x4 x2;have hN0:=hN1;have x4:=x4';clear hN1 x4';go_loopw [12] (fun i wr=>∃k:Nat,k<=o∧i= .int .i64 k∧Hid ((gouts.take k).any (fun x=>decide (x.ac=a∧x.po=p))=false)∧New wo wr) (fun i _=>o-(intOf i).toNat)
   case atStart=>exact⟨0,by omega,rfl,Lib.hid (by simp),New.refl _⟩
   case round=>
    obtain⟨k,hk,rfl,HZ,hN⟩:=hrel;have y:=hN.cell x4;by_cases hk1:k<o
    ·have hk2:k<gouts.length:=by omega
     obtain⟨b,off,hab,q0,q1,q2⟩:=cP (hso.new (hN0.trans hN)) hk2;have hk3:(k:Int)<(o:Int):=by omega
     have hk4:(k:Int)<(gouts.length:Int):=by omega
     have hk5:decide (k<o)=true:=decide_eq_true hk1;have hbw:b<wr.heap.size:=World.block_lt_of_cell? wr _ q0;rw[hab] at y;clear hab;have HIT:Hid (decide (gouts[k].ac=a∧gouts[k].po=p)=true->A=true):=Lib.hid (fun hx=>by
      rw[<-HA.out,gO (l:=gouts) (p:=fun x=>decide (x.ac=a∧x.po=p)) hk2 hk1 hx];simp)
     have NXT:Hid (decide (gouts[k].ac=a∧gouts[k].po=p)=false->(gouts.take (k+1)).any (fun x=>decide (x.ac=a∧x.po=p))=false):=Lib.hid (fun hx=>fJ (p:=fun x=>decide (x.ac=a∧x.po=p)) hk2 HZ.out hx);generalize gouts[k]=x at q0 q1 q2 HIT NXT;by_cases h1:x.ac=a
     ·have e1:(x.ac==a)=true:=by simpa using h1
      by_cases h2:x.po=p
      ·have e2:(x.po==p)=true:=by simpa using h2
       have HT:=Lib.hid (HIT.out (decide_eq_true ⟨h1,h2⟩));clear h1 h2 NXT HIT;go_wp2_with fail;go_ret
       exact⟨by rw[HT.out];rfl,hN0.trans hN⟩
      ·have e2:(x.po==p)=false:=by simpa using h2
       have HF:=Lib.hid (NXT.out (decide_eq_false (fun h=>h2 h.2)));clear h1 h2 NXT HIT;go_wp2_with fail;go_roundw
       case rel=>exact⟨k+1,by omega,by go_num,HF,hN⟩
       case measure=>simp[intOf];omega
     ·have e1:(x.ac==a)=false:=by simpa using h1
      have HF:=Lib.hid (NXT.out (decide_eq_false (fun h=>h1 h.1)));clear h1 NXT HIT;go_wp2_with fail;go_roundw
      case rel=>exact⟨k+1,by omega,by go_num,HF,hN⟩
      case measure=>simp[intOf];omega
    ·have hke:k=o:=by omega
     have hd9:decide (k<o)=false:=decide_eq_false hk1;rw[hke] at HZ;clear hke hk hk1;have HF:Hid (A=false):=Lib.hid (by rw[<-HA.out,HZ1.out,HZ.out];rfl);go_wp2_with fail;go_ret
     exact⟨by rw[HF.out];rfl,hN0.trans hN⟩
set_option maxRecDepth 100000 in
set_option maxHeartbeats 4000000 in
theorem jJ (w:World) (g:Gr) (e o:Nat) (a p:Int) (hg:GrAt w g) (hl:GLen g) (he:e<=g.edges.length) (ho:o<=g.ins.length):
  Calls Tryz.prog 137 #[g.v,I e,I o,I a,I p] w fun en w'=>en= .returned (.bool (bG g e o a p))∧New w w':=by
 obtain⟨A,hA⟩:∃A,bG g e o a p=A:=⟨_,rfl⟩
 rw[hA];unfold bG at hA;have HA:=Lib.hid hA;have hse:=hg.se;have hso:=hg.si;have hle:=hl.e;have hlo:=hl.i;clear hA hg hl;obtain⟨gname,gaa,gac,gacts,gea,gec,gedges,gia,gic,gins,goa,goc,gouts⟩:=g;simp only at*;simp only[Gr.v,Gr.cs];go_enter Tryz.func137,Tryz.ntmps137;go_wp2_with fail;have hN0:New w (w.alloc (.cells #[.string gname,.slice gaa gacts.length gac,.slice gea gedges.length gec,.slice gia gins.length gic,.slice goa gouts.length goc] 26)):=(New.refl w).alloc _;have hbx:(w.alloc (.cells #[.string gname,.slice gaa gacts.length gac,.slice gea gedges.length gec,.slice gia gins.length gic,.slice goa gouts.length goc] 26)).heap[w.heap.size]? =some (.cells #[.string gname,.slice gaa gacts.length gac,.slice gea gedges.length gec,.slice gia gins.length gic,.slice goa gouts.length goc] 26 (0,0)):=heap_alloc_new w _;generalize(w.alloc (.cells #[.string gname,.slice gaa gacts.length gac,.slice gea gedges.length gec,.slice gia gins.length gic,.slice goa gouts.length goc] 26))=w0 at hN0 hbx ⊢;have x2:w0.cell? ⟨w.heap.size,2,none⟩=some (.slice gea gedges.length gec):=by rw[cell_of_block hbx 2];simp
 have x3:w0.cell? ⟨w.heap.size,3,none⟩=some (.slice gia gins.length gic):=by rw[cell_of_block hbx 3];simp
 clear hbx;go_loopw [11] (fun i wr=>∃k:Nat,k<=e∧i= .int .i64 k∧Hid ((gedges.take k).any (fun x=>decide (x.t=a∧x.tp=p))=false)∧New w0 wr) (fun i _=>e-(intOf i).toNat)
 case atStart=>exact⟨0,by omega,rfl,Lib.hid (by simp),New.refl _⟩
 case round=>
  obtain⟨k,hk,rfl,HZ,hN⟩:=hrel;have y:=hN.cell x2;by_cases hk1:k<e
  ·have hk2:k<gedges.length:=by omega
   obtain⟨b,off,hab,q0,q1,q2,q3,q4⟩:=cK (hse.new (hN0.trans hN)) hk2;have hk3:(k:Int)<(e:Int):=by omega
   have hk4:(k:Int)<(gedges.length:Int):=by omega
   have hk5:decide (k<e)=true:=decide_eq_true hk1;have hbw:b<wr.heap.size:=World.block_lt_of_cell? wr _ q0;rw[hab] at y;clear hab;have HIT:Hid (decide (gedges[k].t=a∧gedges[k].tp=p)=true->A=true):=Lib.hid (fun hx=>by
    rw[<-HA.out,gO (l:=gedges) (p:=fun x=>decide (x.t=a∧x.tp=p)) hk2 hk1 hx];simp)
   have NXT:Hid (decide (gedges[k].t=a∧gedges[k].tp=p)=false->(gedges.take (k+1)).any (fun x=>decide (x.t=a∧x.tp=p))=false):=Lib.hid (fun hx=>fJ (p:=fun x=>decide (x.t=a∧x.tp=p)) hk2 HZ.out hx);generalize gedges[k]=x at q0 q1 q2 q3 q4 HIT NXT;by_cases h1:x.t=a
   ·have e1:(x.t==a)=true:=by simpa using h1
    by_cases h2:x.tp=p
    ·have e2:(x.tp==p)=true:=by simpa using h2
     have HT:=Lib.hid (HIT.out (decide_eq_true ⟨h1,h2⟩));clear h1 h2 NXT HIT;go_wp2_with fail;go_ret
     exact⟨by rw[HT.out];rfl,hN0.trans hN⟩
    ·have e2:(x.tp==p)=false:=by simpa using h2
     have HF:=Lib.hid (NXT.out (decide_eq_false (fun h=>h2 h.2)));clear h1 h2 NXT HIT;go_wp2_with fail;go_roundw
     case rel=>exact⟨k+1,by omega,by go_num,HF,hN⟩
     case measure=>simp[intOf];omega
   ·have e1:(x.t==a)=false:=by simpa using h1
    have HF:=Lib.hid (NXT.out (decide_eq_false (fun h=>h1 h.1)));clear h1 NXT HIT;go_wp2_with fail;go_roundw
    case rel=>exact⟨k+1,by omega,by go_num,HF,hN⟩
    case measure=>simp[intOf];omega
  ·have hke:k=e:=by omega
   have hd9:decide (k<e)=false:=decide_eq_false hk1;rw[hke] at HZ;clear hke hk hk1;have HZ1:=HZ;have hN1:=hN0.trans hN;have x3':=hN.cell x3;clear HZ y;go_wp2_with fail;obtain⟨wo,rfl⟩:∃wo,wo=wr:=⟨_,rfl⟩
   clear hN0 hN x3 x2;have hN0:=hN1;have x3:=x3';clear hN1 x3';go_loopw [12] (fun i wr=>∃k:Nat,k<=o∧i= .int .i64 k∧Hid ((gins.take k).any (fun x=>decide (x.ac=a∧x.po=p))=false)∧New wo wr) (fun i _=>o-(intOf i).toNat)
   case atStart=>exact⟨0,by omega,rfl,Lib.hid (by simp),New.refl _⟩
   case round=>
    obtain⟨k,hk,rfl,HZ,hN⟩:=hrel;have y:=hN.cell x3;by_cases hk1:k<o
    ·have hk2:k<gins.length:=by omega
     obtain⟨b,off,hab,q0,q1,q2⟩:=cP (hso.new (hN0.trans hN)) hk2;have hk3:(k:Int)<(o:Int):=by omega
     have hk4:(k:Int)<(gins.length:Int):=by omega
     have hk5:decide (k<o)=true:=decide_eq_true hk1;have hbw:b<wr.heap.size:=World.block_lt_of_cell? wr _ q0;rw[hab] at y;clear hab;have HIT:Hid (decide (gins[k].ac=a∧gins[k].po=p)=true->A=true):=Lib.hid (fun hx=>by
      rw[<-HA.out,gO (l:=gins) (p:=fun x=>decide (x.ac=a∧x.po=p)) hk2 hk1 hx];simp)
     have NXT:Hid (decide (gins[k].ac=a∧gins[k].po=p)=false->(gins.take (k+1)).any (fun x=>decide (x.ac=a∧x.po=p))=false):=Lib.hid (fun hx=>fJ (p:=fun x=>decide (x.ac=a∧x.po=p)) hk2 HZ.out hx);generalize gins[k]=x at q0 q1 q2 HIT NXT;by_cases h1:x.ac=a
     ·have e1:(x.ac==a)=true:=by simpa using h1
      by_cases h2:x.po=p
      ·have e2:(x.po==p)=true:=by simpa using h2
       have HT:=Lib.hid (HIT.out (decide_eq_true ⟨h1,h2⟩));clear h1 h2 NXT HIT;go_wp2_with fail;go_ret
       exact⟨by rw[HT.out];rfl,hN0.trans hN⟩
      ·have e2:(x.po==p)=false:=by simpa using h2
       have HF:=Lib.hid (NXT.out (decide_eq_false (fun h=>h2 h.2)));clear h1 h2 NXT HIT;go_wp2_with fail;go_roundw
       case rel=>exact⟨k+1,by omega,by go_num,HF,hN⟩
       case measure=>simp[intOf];omega
     ·have e1:(x.ac==a)=false:=by simpa using h1
      have HF:=Lib.hid (NXT.out (decide_eq_false (fun h=>h1 h.1)));clear h1 NXT HIT;go_wp2_with fail;go_roundw
      case rel=>exact⟨k+1,by omega,by go_num,HF,hN⟩
      case measure=>simp[intOf];omega
    ·have hke:k=o:=by omega
     have hd9:decide (k<o)=false:=decide_eq_false hk1;rw[hke] at HZ;clear hke hk hk1;have HF:Hid (A=false):=Lib.hid (by rw[<-HA.out,HZ1.out,HZ.out];rfl);go_wp2_with fail;go_ret
     exact⟨by rw[HF.out];rfl,hN0.trans hN⟩
set_option maxRecDepth 100000 in
set_option maxHeartbeats 4000000 in
theorem kX (w:World) (g:Gr) (i:Nat) (hg:GrAt w g) (hl:GLen g) (hi:i<g.acts.length):
  Calls Tryz.prog 138 #[g.v,I i] w fun en w'=>en= .returned (.tuple #[I (nIn g.acts[i]),I (bS g.acts[i])])∧New w w':=by
 have hsa:=hg.sa;have hxx:=hg.ax _ (List.getElem_mem hi);have hxn:=(hl.ax _ (List.getElem_mem hi)).1;have hla:=hl.a;clear hg hl;obtain⟨gname,gaa,gac,gacts,gea,gec,gedges,gia,gic,gins,goa,goc,gouts⟩:=g;simp only at*;simp only[Gr.v,Gr.cs];have hcs:∀w1,New w w1->Calls Tryz.prog 134 #[.int .u8 gacts[i].tag,.slice gacts[i].a gacts[i].xs.length gacts[i].c] w1 (av w1 (aj gacts[i].tag gacts[i].xs)):=fun w1 kk=>lW gacts[i].tag gacts[i].a gacts[i].c gacts[i].xs w1 (hxx.new kk) hxn
 have HR:Hid (I (nIn gacts[i])=I ((aj gacts[i].tag gacts[i].xs).2.1.length:Int)∧I (bS gacts[i])=I ((aj gacts[i].tag gacts[i].xs).2.2.length:Int)):=Lib.hid ⟨rfl,rfl⟩;obtain⟨b,off,hab,q0,q1,q2⟩:=cM hsa hi;rw[HR.out.1,HR.out.2];have hi0:(i:Int)<(gacts.length:Int):=by have hi':i<gacts.length:=hi;omega
 generalize aj gacts[i].tag gacts[i].xs=sh at hcs HR ⊢;generalize gacts[i]=x at q0 q1 q2 hcs HR hxn;clear HR hxx hsa hxn;have HAB:=Lib.hid hab;clear hab;go_enter Tryz.func138,Tryz.ntmps138;go_wp2_with fail;have hN0:New w (w.alloc (.cells #[.string gname,.slice gaa gacts.length gac,.slice gea gedges.length gec,.slice gia gins.length gic,.slice goa gouts.length goc] 26)):=(New.refl w).alloc _;have hbx:(w.alloc (.cells #[.string gname,.slice gaa gacts.length gac,.slice gea gedges.length gec,.slice gia gins.length gic,.slice goa gouts.length goc] 26)).heap[w.heap.size]? =some (.cells #[.string gname,.slice gaa gacts.length gac,.slice gea gedges.length gec,.slice gia gins.length gic,.slice goa gouts.length goc] 26 (0,0)):=heap_alloc_new w _;generalize(w.alloc (.cells #[.string gname,.slice gaa gacts.length gac,.slice gea gedges.length gec,.slice gia gins.length gic,.slice goa gouts.length goc] 26))=w0 at hN0 hbx ⊢;have x1:w0.cell? ⟨w.heap.size,1,none⟩=some (.slice gaa gacts.length gac):=by rw[cell_of_block hbx 1];simp
 clear hbx;rw[HAB.out] at x1;replace q0:=hN0.cell q0;replace q1:=hN0.cell q1;replace q2:=hN0.cell q2;have hcs2:∀w1,New w0 w1->Calls Tryz.prog 134 #[.int .u8 x.tag,.slice x.a x.xs.length x.c] w1 (av w1 sh):=fun w1 k=>hcs w1 (hN0.trans k)
 go_region_held3 (fun w'=>w'.cell? ⟨w.heap.size,1,none⟩=some (.slice (some ⟨b,off,none⟩) gacts.length gac)∧w'.cell? ⟨b,off+i*3+1,none⟩=some (.int .u8 x.tag)∧w'.cell? ⟨b,off+i*3+2,none⟩=some (.slice x.a x.xs.length x.c)∧New w0 w')
  ((refine⟨New.cell (w:=w0) ?_ x1,New.cell (w:=w0) ?_ q1,New.cell (w:=w0) ?_ q2,?_⟩<;>(repeat(first|exact New.refl w0|refine New.drew ?_|exact n2|refine New.trans ?_ n2))))
  ((go_at_call 134;refine(hcs2 _ ((New.refl w0).drew)).mono ?_;rintro e w2 ⟨a1,ca,a2,cb,rfl,_,_,_,n2⟩))
 rename_i hSX;have hNX:=hN0.trans hSX.2.2.2;simp only[Exit.then];go_wp2_with fail;exact bodyPost_ret (v:= .tuple #[I (sh.2.1.length:Int),I (sh.2.2.length:Int)]) (by simp[results,Tryz.results138,go_sem]) rfl ⟨rfl,hNX⟩
set_option maxRecDepth 100000 in
set_option maxHeartbeats 4000000 in
theorem jr (w:World) (g:Gr) (a p:Int) (out tk:Bool) (hg:GrAt w g) (hl:GLen g):
  Calls Tryz.prog 135 #[g.v,I a,I p,.bool out,.bool tk] w fun en w'=>en= .returned (I (cN g (fun x=>if out then bS x else nIn x) tk a p))∧New w w':=by
 have hla:=hl.a;by_cases h:0<=a∧a<g.acts.length
 ·obtain⟨h1,h2⟩:=h;obtain⟨i,rfl⟩:=Int.eq_ofNat_of_zero_le h1;have hi:i<g.acts.length:=by omega
  have hr:=fun W (k:New w W)=>kX W g i (hg.new k) hl hi
  have he:cN g (fun x=>if out then bS x else nIn x) tk (i:Int) p=if 0<=p∧p<((if out then bS g.acts[i] else nIn g.acts[i]:Nat):Int) then(if tk then 86 else 0) else 85:=by
   unfold cN;rw[dif_pos ⟨h1,h2⟩];simp
  rw[he];generalize nIn g.acts[i]=ni at hr ⊢;generalize bS g.acts[i]=no at hr ⊢;clear he hg hl h1;obtain⟨gname,gaa,gac,gacts,gea,gec,gedges,gia,gic,gins,goa,goc,gouts⟩:=g;simp only at*;simp only[Gr.v,Gr.cs] at hr ⊢;have d1:decide ((i:Int)<0)=false:=decide_eq_false (by omega);cases out with
  |true=>
   by_cases hp0:p<0
   ·rw[if_neg (by omega)];go_enter Tryz.func135,Tryz.ntmps135;go_wp2_with fail;have hN0:New w (w.alloc (.cells #[.string gname,.slice gaa gacts.length gac,.slice gea gedges.length gec,.slice gia gins.length gic,.slice goa gouts.length goc] 26)):=(New.refl w).alloc _;have hbx:(w.alloc (.cells #[.string gname,.slice gaa gacts.length gac,.slice gea gedges.length gec,.slice gia gins.length gic,.slice goa gouts.length goc] 26)).heap[w.heap.size]? =some (.cells #[.string gname,.slice gaa gacts.length gac,.slice gea gedges.length gec,.slice gia gins.length gic,.slice goa gouts.length goc] 26 (0,0)):=heap_alloc_new w _;generalize(w.alloc (.cells #[.string gname,.slice gaa gacts.length gac,.slice gea gedges.length gec,.slice gia gins.length gic,.slice goa gouts.length goc] 26))=w0 at hN0 hbx ⊢;have x0:w0.cell? ⟨w.heap.size,0,none⟩=some (.string gname):=by rw[cell_of_block hbx 0];simp
    have x1:w0.cell? ⟨w.heap.size,1,none⟩=some (.slice gaa gacts.length gac):=by rw[cell_of_block hbx 1];simp
    have x2:w0.cell? ⟨w.heap.size,2,none⟩=some (.slice gea gedges.length gec):=by rw[cell_of_block hbx 2];simp
    have x3:w0.cell? ⟨w.heap.size,3,none⟩=some (.slice gia gins.length gic):=by rw[cell_of_block hbx 3];simp
    have x4:w0.cell? ⟨w.heap.size,4,none⟩=some (.slice goa gouts.length goc):=by rw[cell_of_block hbx 4];simp
    clear hbx;refine(hr w0 hN0).mono ?_;rintro e w2 ⟨rfl,k2⟩;go_wp2_with fail;go_ret
    exact⟨rfl,hN0.trans k2⟩
   ·by_cases hp1:p<((no:Nat):Int)
    ·rw[if_pos (by simpa using⟨by omega,hp1⟩)];cases tk with
     |true=>
      simp only[if_true];go_enter Tryz.func135,Tryz.ntmps135;go_wp2_with fail;have hN0:New w (w.alloc (.cells #[.string gname,.slice gaa gacts.length gac,.slice gea gedges.length gec,.slice gia gins.length gic,.slice goa gouts.length goc] 26)):=(New.refl w).alloc _;have hbx:(w.alloc (.cells #[.string gname,.slice gaa gacts.length gac,.slice gea gedges.length gec,.slice gia gins.length gic,.slice goa gouts.length goc] 26)).heap[w.heap.size]? =some (.cells #[.string gname,.slice gaa gacts.length gac,.slice gea gedges.length gec,.slice gia gins.length gic,.slice goa gouts.length goc] 26 (0,0)):=heap_alloc_new w _;generalize(w.alloc (.cells #[.string gname,.slice gaa gacts.length gac,.slice gea gedges.length gec,.slice gia gins.length gic,.slice goa gouts.length goc] 26))=w0 at hN0 hbx ⊢;have x0:w0.cell? ⟨w.heap.size,0,none⟩=some (.string gname):=by rw[cell_of_block hbx 0];simp
      have x1:w0.cell? ⟨w.heap.size,1,none⟩=some (.slice gaa gacts.length gac):=by rw[cell_of_block hbx 1];simp
      have x2:w0.cell? ⟨w.heap.size,2,none⟩=some (.slice gea gedges.length gec):=by rw[cell_of_block hbx 2];simp
      have x3:w0.cell? ⟨w.heap.size,3,none⟩=some (.slice gia gins.length gic):=by rw[cell_of_block hbx 3];simp
      have x4:w0.cell? ⟨w.heap.size,4,none⟩=some (.slice goa gouts.length goc):=by rw[cell_of_block hbx 4];simp
      clear hbx;refine(hr w0 hN0).mono ?_;rintro e w2 ⟨rfl,k2⟩;go_wp2_with fail;go_ret
      exact⟨rfl,hN0.trans k2⟩
     |false=>
      simp only[Bool.false_eq_true,if_false];go_enter Tryz.func135,Tryz.ntmps135;go_wp2_with fail;have hN0:New w (w.alloc (.cells #[.string gname,.slice gaa gacts.length gac,.slice gea gedges.length gec,.slice gia gins.length gic,.slice goa gouts.length goc] 26)):=(New.refl w).alloc _;have hbx:(w.alloc (.cells #[.string gname,.slice gaa gacts.length gac,.slice gea gedges.length gec,.slice gia gins.length gic,.slice goa gouts.length goc] 26)).heap[w.heap.size]? =some (.cells #[.string gname,.slice gaa gacts.length gac,.slice gea gedges.length gec,.slice gia gins.length gic,.slice goa gouts.length goc] 26 (0,0)):=heap_alloc_new w _;generalize(w.alloc (.cells #[.string gname,.slice gaa gacts.length gac,.slice gea gedges.length gec,.slice gia gins.length gic,.slice goa gouts.length goc] 26))=w0 at hN0 hbx ⊢;have x0:w0.cell? ⟨w.heap.size,0,none⟩=some (.string gname):=by rw[cell_of_block hbx 0];simp
      have x1:w0.cell? ⟨w.heap.size,1,none⟩=some (.slice gaa gacts.length gac):=by rw[cell_of_block hbx 1];simp
      have x2:w0.cell? ⟨w.heap.size,2,none⟩=some (.slice gea gedges.length gec):=by rw[cell_of_block hbx 2];simp
      have x3:w0.cell? ⟨w.heap.size,3,none⟩=some (.slice gia gins.length gic):=by rw[cell_of_block hbx 3];simp
      have x4:w0.cell? ⟨w.heap.size,4,none⟩=some (.slice goa gouts.length goc):=by rw[cell_of_block hbx 4];simp
      clear hbx;refine(hr w0 hN0).mono ?_;rintro e w2 ⟨rfl,k2⟩;go_wp2_with fail;go_ret
      exact⟨rfl,hN0.trans k2⟩
    ·rw[if_neg (by simp;omega)];go_enter Tryz.func135,Tryz.ntmps135;go_wp2_with fail;have hN0:New w (w.alloc (.cells #[.string gname,.slice gaa gacts.length gac,.slice gea gedges.length gec,.slice gia gins.length gic,.slice goa gouts.length goc] 26)):=(New.refl w).alloc _;have hbx:(w.alloc (.cells #[.string gname,.slice gaa gacts.length gac,.slice gea gedges.length gec,.slice gia gins.length gic,.slice goa gouts.length goc] 26)).heap[w.heap.size]? =some (.cells #[.string gname,.slice gaa gacts.length gac,.slice gea gedges.length gec,.slice gia gins.length gic,.slice goa gouts.length goc] 26 (0,0)):=heap_alloc_new w _;generalize(w.alloc (.cells #[.string gname,.slice gaa gacts.length gac,.slice gea gedges.length gec,.slice gia gins.length gic,.slice goa gouts.length goc] 26))=w0 at hN0 hbx ⊢;have x0:w0.cell? ⟨w.heap.size,0,none⟩=some (.string gname):=by rw[cell_of_block hbx 0];simp
     have x1:w0.cell? ⟨w.heap.size,1,none⟩=some (.slice gaa gacts.length gac):=by rw[cell_of_block hbx 1];simp
     have x2:w0.cell? ⟨w.heap.size,2,none⟩=some (.slice gea gedges.length gec):=by rw[cell_of_block hbx 2];simp
     have x3:w0.cell? ⟨w.heap.size,3,none⟩=some (.slice gia gins.length gic):=by rw[cell_of_block hbx 3];simp
     have x4:w0.cell? ⟨w.heap.size,4,none⟩=some (.slice goa gouts.length goc):=by rw[cell_of_block hbx 4];simp
     clear hbx;refine(hr w0 hN0).mono ?_;rintro e w2 ⟨rfl,k2⟩;go_wp2_with fail;go_ret
     exact⟨rfl,hN0.trans k2⟩
  |false=>
   by_cases hp0:p<0
   ·rw[if_neg (by omega)];go_enter Tryz.func135,Tryz.ntmps135;go_wp2_with fail;have hN0:New w (w.alloc (.cells #[.string gname,.slice gaa gacts.length gac,.slice gea gedges.length gec,.slice gia gins.length gic,.slice goa gouts.length goc] 26)):=(New.refl w).alloc _;have hbx:(w.alloc (.cells #[.string gname,.slice gaa gacts.length gac,.slice gea gedges.length gec,.slice gia gins.length gic,.slice goa gouts.length goc] 26)).heap[w.heap.size]? =some (.cells #[.string gname,.slice gaa gacts.length gac,.slice gea gedges.length gec,.slice gia gins.length gic,.slice goa gouts.length goc] 26 (0,0)):=heap_alloc_new w _;generalize(w.alloc (.cells #[.string gname,.slice gaa gacts.length gac,.slice gea gedges.length gec,.slice gia gins.length gic,.slice goa gouts.length goc] 26))=w0 at hN0 hbx ⊢;have x0:w0.cell? ⟨w.heap.size,0,none⟩=some (.string gname):=by rw[cell_of_block hbx 0];simp
    have x1:w0.cell? ⟨w.heap.size,1,none⟩=some (.slice gaa gacts.length gac):=by rw[cell_of_block hbx 1];simp
    have x2:w0.cell? ⟨w.heap.size,2,none⟩=some (.slice gea gedges.length gec):=by rw[cell_of_block hbx 2];simp
    have x3:w0.cell? ⟨w.heap.size,3,none⟩=some (.slice gia gins.length gic):=by rw[cell_of_block hbx 3];simp
    have x4:w0.cell? ⟨w.heap.size,4,none⟩=some (.slice goa gouts.length goc):=by rw[cell_of_block hbx 4];simp
    clear hbx;refine(hr w0 hN0).mono ?_;rintro e w2 ⟨rfl,k2⟩;go_wp2_with fail;go_ret
    exact⟨rfl,hN0.trans k2⟩
   ·by_cases hp1:p<((ni:Nat):Int)
    ·rw[if_pos (by simpa using⟨by omega,hp1⟩)];cases tk with
     |true=>
      simp only[if_true];go_enter Tryz.func135,Tryz.ntmps135;go_wp2_with fail;have hN0:New w (w.alloc (.cells #[.string gname,.slice gaa gacts.length gac,.slice gea gedges.length gec,.slice gia gins.length gic,.slice goa gouts.length goc] 26)):=(New.refl w).alloc _;have hbx:(w.alloc (.cells #[.string gname,.slice gaa gacts.length gac,.slice gea gedges.length gec,.slice gia gins.length gic,.slice goa gouts.length goc] 26)).heap[w.heap.size]? =some (.cells #[.string gname,.slice gaa gacts.length gac,.slice gea gedges.length gec,.slice gia gins.length gic,.slice goa gouts.length goc] 26 (0,0)):=heap_alloc_new w _;generalize(w.alloc (.cells #[.string gname,.slice gaa gacts.length gac,.slice gea gedges.length gec,.slice gia gins.length gic,.slice goa gouts.length goc] 26))=w0 at hN0 hbx ⊢;have x0:w0.cell? ⟨w.heap.size,0,none⟩=some (.string gname):=by rw[cell_of_block hbx 0];simp
      have x1:w0.cell? ⟨w.heap.size,1,none⟩=some (.slice gaa gacts.length gac):=by rw[cell_of_block hbx 1];simp
      have x2:w0.cell? ⟨w.heap.size,2,none⟩=some (.slice gea gedges.length gec):=by rw[cell_of_block hbx 2];simp
      have x3:w0.cell? ⟨w.heap.size,3,none⟩=some (.slice gia gins.length gic):=by rw[cell_of_block hbx 3];simp
      have x4:w0.cell? ⟨w.heap.size,4,none⟩=some (.slice goa gouts.length goc):=by rw[cell_of_block hbx 4];simp
      clear hbx;refine(hr w0 hN0).mono ?_;rintro e w2 ⟨rfl,k2⟩;go_wp2_with fail;go_ret
      exact⟨rfl,hN0.trans k2⟩
     |false=>
      simp only[Bool.false_eq_true,if_false];go_enter Tryz.func135,Tryz.ntmps135;go_wp2_with fail;have hN0:New w (w.alloc (.cells #[.string gname,.slice gaa gacts.length gac,.slice gea gedges.length gec,.slice gia gins.length gic,.slice goa gouts.length goc] 26)):=(New.refl w).alloc _;have hbx:(w.alloc (.cells #[.string gname,.slice gaa gacts.length gac,.slice gea gedges.length gec,.slice gia gins.length gic,.slice goa gouts.length goc] 26)).heap[w.heap.size]? =some (.cells #[.string gname,.slice gaa gacts.length gac,.slice gea gedges.length gec,.slice gia gins.length gic,.slice goa gouts.length goc] 26 (0,0)):=heap_alloc_new w _;generalize(w.alloc (.cells #[.string gname,.slice gaa gacts.length gac,.slice gea gedges.length gec,.slice gia gins.length gic,.slice goa gouts.length goc] 26))=w0 at hN0 hbx ⊢;have x0:w0.cell? ⟨w.heap.size,0,none⟩=some (.string gname):=by rw[cell_of_block hbx 0];simp
      have x1:w0.cell? ⟨w.heap.size,1,none⟩=some (.slice gaa gacts.length gac):=by rw[cell_of_block hbx 1];simp
      have x2:w0.cell? ⟨w.heap.size,2,none⟩=some (.slice gea gedges.length gec):=by rw[cell_of_block hbx 2];simp
      have x3:w0.cell? ⟨w.heap.size,3,none⟩=some (.slice gia gins.length gic):=by rw[cell_of_block hbx 3];simp
      have x4:w0.cell? ⟨w.heap.size,4,none⟩=some (.slice goa gouts.length goc):=by rw[cell_of_block hbx 4];simp
      clear hbx;refine(hr w0 hN0).mono ?_;rintro e w2 ⟨rfl,k2⟩;go_wp2_with fail;go_ret
      exact⟨rfl,hN0.trans k2⟩
    ·rw[if_neg (by simp;omega)];go_enter Tryz.func135,Tryz.ntmps135;go_wp2_with fail;have hN0:New w (w.alloc (.cells #[.string gname,.slice gaa gacts.length gac,.slice gea gedges.length gec,.slice gia gins.length gic,.slice goa gouts.length goc] 26)):=(New.refl w).alloc _;have hbx:(w.alloc (.cells #[.string gname,.slice gaa gacts.length gac,.slice gea gedges.length gec,.slice gia gins.length gic,.slice goa gouts.length goc] 26)).heap[w.heap.size]? =some (.cells #[.string gname,.slice gaa gacts.length gac,.slice gea gedges.length gec,.slice gia gins.length gic,.slice goa gouts.length goc] 26 (0,0)):=heap_alloc_new w _;generalize(w.alloc (.cells #[.string gname,.slice gaa gacts.length gac,.slice gea gedges.length gec,.slice gia gins.length gic,.slice goa gouts.length goc] 26))=w0 at hN0 hbx ⊢;have x0:w0.cell? ⟨w.heap.size,0,none⟩=some (.string gname):=by rw[cell_of_block hbx 0];simp
     have x1:w0.cell? ⟨w.heap.size,1,none⟩=some (.slice gaa gacts.length gac):=by rw[cell_of_block hbx 1];simp
     have x2:w0.cell? ⟨w.heap.size,2,none⟩=some (.slice gea gedges.length gec):=by rw[cell_of_block hbx 2];simp
     have x3:w0.cell? ⟨w.heap.size,3,none⟩=some (.slice gia gins.length gic):=by rw[cell_of_block hbx 3];simp
     have x4:w0.cell? ⟨w.heap.size,4,none⟩=some (.slice goa gouts.length goc):=by rw[cell_of_block hbx 4];simp
     clear hbx;refine(hr w0 hN0).mono ?_;rintro e w2 ⟨rfl,k2⟩;go_wp2_with fail;go_ret
     exact⟨rfl,hN0.trans k2⟩
 ·have he:cN g (fun x=>if out then bS x else nIn x) tk a p=84:=by unfold cN;rw[dif_neg h]
  rw[he];clear he hg hl;obtain⟨gname,gaa,gac,gacts,gea,gec,gedges,gia,gic,gins,goa,goc,gouts⟩:=g;simp only at*;simp only[Gr.v,Gr.cs];by_cases h1:a<0
  ·skip
   go_enter Tryz.func135,Tryz.ntmps135;go_wp2_with fail;go_ret
   exact⟨rfl,(New.refl w).alloc _⟩
  ·have h2:(gacts.length:Int)<=a:=by omega
   go_enter Tryz.func135,Tryz.ntmps135;go_wp2_with fail;go_ret
   exact⟨rfl,(New.refl w).alloc _⟩
theorem gP {s t:ByteArray} :aC s=aC t ↔ s=t:=by
 refine⟨fun h=>?_,fun h=>by rw[h]⟩;have inj:∀(l m:List UInt8),l.map (fun b=>(b.toNat:Int))=m.map (fun b=>(b.toNat:Int))->l=m:=by
  intro l;induction l with
  |nil=>intro m h;cases m with
   |nil=>rfl
   |cons y m=>simp at h
  |cons x l ih=>intro m h;cases m with
   |nil=>simp at h
   |cons y m=>
    simp only[List.map_cons,List.cons.injEq] at h;have hx:x.toNat=y.toNat:=by have:=h.1;omega
    rw[ih m h.2,UInt8.toNat_inj.1 hx]
 have:=inj _ _ h;apply ByteArray.ext;exact Array.toList_inj.1 this
theorem mz {s t:ByteArray} (h:s=t):(s.toList==t.toList)=true:=by rw[h];simp
theorem pm {s t:ByteArray} (h:¬s=t):(s.toList==t.toList)=false:=by
 rcases hx:(s.toList==t.toList) with _|_
 ·rfl
 ·exfalso
  apply h;have h1:s.toList=t.toList:=by simpa using hx
  rw[ByteArray.toList_eq,ByteArray.toList_eq] at h1;apply ByteArray.ext;exact Array.toList_inj.1 h1
def cu {α:Type} (f:α->ByteArray) (l:List α) (k:Nat) (s:ByteArray):Bool:=(l.take k).any (fun x=>decide (aC (f x)=aC s))
theorem nt (g:Gr) (a i o:Nat) (s:ByteArray):(aq g a i o).any (fun t=>decide (aC t=aC s))=(cu GAct.name g.acts a s||(cu GPort.name g.ins i s||cu GPort.name g.outs o s)):=by
 unfold aq cu;simp only[List.any_append,List.any_map,Function.comp_def]
set_option maxRecDepth 100000 in
set_option maxHeartbeats 4000000 in
theorem i7 (w:World) (g:Gr) (ka ki ko:Nat) (s:ByteArray) (hg:GrAt w g) (hl:GLen g) (ha:ka<=g.acts.length) (hi:ki<=g.ins.length) (ho:ko<=g.outs.length):
  Calls Tryz.prog 133 #[g.v,I ka,I ki,I ko,.string s] w fun en w'=>en= .returned (.bool ((aq g ka ki ko).any (fun t=>decide (aC t=aC s))))∧New w w':=by
 rw[nt];obtain⟨A,hA⟩:∃A,(cu GAct.name g.acts ka s||(cu GPort.name g.ins ki s||cu GPort.name g.outs ko s))=A:=⟨_,rfl⟩
 rw[hA];have HA:=Lib.hid hA;have hsa:=hg.sa;have hsi:=hg.si;have hso:=hg.so;have hla:=hl.a;have hli:=hl.i;have hlo:=hl.o;clear hA hg hl;obtain⟨gname,gaa,gac,gacts,gea,gec,gedges,gia,gic,gins,goa,goc,gouts⟩:=g;simp only at*;simp only[Gr.v,Gr.cs];go_enter Tryz.func133,Tryz.ntmps133;go_wp2_with fail;have hN0:New w (w.alloc (.cells #[.string gname,.slice gaa gacts.length gac,.slice gea gedges.length gec,.slice gia gins.length gic,.slice goa gouts.length goc] 26)):=(New.refl w).alloc _;have hbx:(w.alloc (.cells #[.string gname,.slice gaa gacts.length gac,.slice gea gedges.length gec,.slice gia gins.length gic,.slice goa gouts.length goc] 26)).heap[w.heap.size]? =some (.cells #[.string gname,.slice gaa gacts.length gac,.slice gea gedges.length gec,.slice gia gins.length gic,.slice goa gouts.length goc] 26 (0,0)):=heap_alloc_new w _;generalize(w.alloc (.cells #[.string gname,.slice gaa gacts.length gac,.slice gea gedges.length gec,.slice gia gins.length gic,.slice goa gouts.length goc] 26))=w0 at hN0 hbx ⊢;have x1:w0.cell? ⟨w.heap.size,1,none⟩=some (.slice gaa gacts.length gac):=by rw[cell_of_block hbx 1];simp
 have x3:w0.cell? ⟨w.heap.size,3,none⟩=some (.slice gia gins.length gic):=by rw[cell_of_block hbx 3];simp
 have x4:w0.cell? ⟨w.heap.size,4,none⟩=some (.slice goa gouts.length goc):=by rw[cell_of_block hbx 4];simp
 clear hbx;go_loopw [11] (fun i wr=>∃k:Nat,k<=ka∧i= .int .i64 k∧Hid (cu GAct.name gacts k s=false)∧New w0 wr) (fun i _=>ka-(intOf i).toNat)
 case atStart=>exact⟨0,by omega,rfl,Lib.hid (by simp[cu]),New.refl _⟩
 case round=>
  obtain⟨k,hk,rfl,HZ,hN⟩:=hrel;have y:=hN.cell x1;by_cases hk1:k<ka
  ·have hk2:k<gacts.length:=by omega
   obtain⟨b,off,hab,q0,q1,q2⟩:=cM (hsa.new (hN0.trans hN)) hk2;have hk3:(k:Int)<(ka:Int):=by omega
   have hk4:(k:Int)<(gacts.length:Int):=by omega
   have hk5:decide (k<ka)=true:=decide_eq_true hk1;have hbw:b<wr.heap.size:=World.block_lt_of_cell? wr _ q0;rw[hab] at y;clear hab;have HIT:Hid (gacts[k].name=s->A=true):=Lib.hid (fun hx=>by
    have h:cu GAct.name gacts ka s=true:=gO (l:=gacts) hk2 hk1 (by rw[hx];simp);rw[<-HA.out,h];simp)
   have NXT:Hid (gacts[k].name≠s->cu GAct.name gacts (k+1) s=false):=Lib.hid (fun hx=>fJ hk2 HZ.out (decide_eq_false (fun h=>hx (gP.1 h))));generalize gacts[k]=x at q0 q1 q2 HIT NXT;by_cases h1:x.name=s
   ·have e2:=mz h1;have HT:=Lib.hid (HIT.out h1);clear h1 NXT HIT;go_wp2_with fail;go_ret
    exact⟨by rw[HT.out];rfl,hN0.trans hN⟩
   ·have e2:=pm h1;have HF:=Lib.hid (NXT.out h1);clear h1 NXT HIT;go_wp2_with fail;go_roundw
    case rel=>exact⟨k+1,by omega,by go_num,HF,hN⟩
    case measure=>simp[intOf];omega
  ·have hke:k=ka:=by omega
   have hd9:decide (k<ka)=false:=decide_eq_false hk1;rw[hke] at HZ;clear hke hk hk1;have HZ1:=HZ;have hN1:=hN0.trans hN;have x3':=hN.cell x3;have x4':=hN.cell x4;clear HZ y;go_wp2_with fail;obtain⟨wo,rfl⟩:∃wo,wo=wr:=⟨_,rfl⟩
   clear hN0 hN x1 x3 x4;have hN0:=hN1;have x3:=x3';have x4:=x4';clear hN1 x3' x4';go_loopw [12] (fun i wr=>∃k:Nat,k<=ki∧i= .int .i64 k∧Hid (cu GPort.name gins k s=false)∧New wo wr) (fun i _=>ki-(intOf i).toNat)
   case atStart=>exact⟨0,by omega,rfl,Lib.hid (by simp[cu]),New.refl _⟩
   case round=>
    obtain⟨k,hk,rfl,HZ,hN⟩:=hrel;have y:=hN.cell x3;by_cases hk1:k<ki
    ·have hk2:k<gins.length:=by omega
     obtain⟨b,off,hab,q0,q1,q2⟩:=cP (hsi.new (hN0.trans hN)) hk2;have hk3:(k:Int)<(ki:Int):=by omega
     have hk4:(k:Int)<(gins.length:Int):=by omega
     have hk5:decide (k<ki)=true:=decide_eq_true hk1;have hbw:b<wr.heap.size:=World.block_lt_of_cell? wr _ q0;rw[hab] at y;clear hab;have HIT:Hid (gins[k].name=s->A=true):=Lib.hid (fun hx=>by
      have h:cu GPort.name gins ki s=true:=gO (l:=gins) hk2 hk1 (by rw[hx];simp);rw[<-HA.out,h];simp)
     have NXT:Hid (gins[k].name≠s->cu GPort.name gins (k+1) s=false):=Lib.hid (fun hx=>fJ hk2 HZ.out (decide_eq_false (fun h=>hx (gP.1 h))));generalize gins[k]=x at q0 q1 q2 HIT NXT;by_cases h1:x.name=s
     ·have e2:=mz h1;have HT:=Lib.hid (HIT.out h1);clear h1 NXT HIT;go_wp2_with fail;go_ret
      exact⟨by rw[HT.out];rfl,hN0.trans hN⟩
     ·have e2:=pm h1;have HF:=Lib.hid (NXT.out h1);clear h1 NXT HIT;go_wp2_with fail;go_roundw
      case rel=>exact⟨k+1,by omega,by go_num,HF,hN⟩
      case measure=>simp[intOf];omega
    ·have hke:k=ki:=by omega
     have hd9:decide (k<ki)=false:=decide_eq_false hk1;rw[hke] at HZ;clear hke hk hk1;obtain⟨wp,rfl⟩:∃wp,wp=wo:=⟨_,rfl⟩
     have HZ2:=HZ;have hN1:=hN0.trans hN;have x4':=hN.cell x4;clear HZ y;go_wp2_with fail;obtain⟨wo,rfl⟩:∃wo,wo=wr:=⟨_,rfl⟩
     clear hN0 hN x3 x4;have hN0:=hN1;have x4:=x4';clear hN1 x4';go_loopw [13] (fun i wr=>∃k:Nat,k<=ko∧i= .int .i64 k∧Hid (cu GPort.name gouts k s=false)∧New wo wr) (fun i _=>ko-(intOf i).toNat)
     case atStart=>exact⟨0,by omega,rfl,Lib.hid (by simp[cu]),New.refl _⟩
     case round=>
      obtain⟨k,hk,rfl,HZ,hN⟩:=hrel;have y:=hN.cell x4;by_cases hk1:k<ko
      ·have hk2:k<gouts.length:=by omega
       obtain⟨b,off,hab,q0,q1,q2⟩:=cP (hso.new (hN0.trans hN)) hk2;have hk3:(k:Int)<(ko:Int):=by omega
       have hk4:(k:Int)<(gouts.length:Int):=by omega
       have hk5:decide (k<ko)=true:=decide_eq_true hk1;have hbw:b<wr.heap.size:=World.block_lt_of_cell? wr _ q0;rw[hab] at y;clear hab;have HIT:Hid (gouts[k].name=s->A=true):=Lib.hid (fun hx=>by
        have h:cu GPort.name gouts ko s=true:=gO (l:=gouts) hk2 hk1 (by rw[hx];simp);rw[<-HA.out,h];simp)
       have NXT:Hid (gouts[k].name≠s->cu GPort.name gouts (k+1) s=false):=Lib.hid (fun hx=>fJ hk2 HZ.out (decide_eq_false (fun h=>hx (gP.1 h))));generalize gouts[k]=x at q0 q1 q2 HIT NXT;by_cases h1:x.name=s
       ·have e2:=mz h1;have HT:=Lib.hid (HIT.out h1);clear h1 NXT HIT;go_wp2_with fail;go_ret
        exact⟨by rw[HT.out];rfl,hN0.trans hN⟩
       ·have e2:=pm h1;have HF:=Lib.hid (NXT.out h1);clear h1 NXT HIT;go_wp2_with fail;go_roundw
        case rel=>exact⟨k+1,by omega,by go_num,HF,hN⟩
        case measure=>simp[intOf];omega
      ·have hke:k=ko:=by omega
       have hd9:decide (k<ko)=false:=decide_eq_false hk1;rw[hke] at HZ;clear hke hk hk1;have HF:Hid (A=false):=Lib.hid (by rw[<-HA.out,HZ1.out,HZ2.out,HZ.out];rfl);go_wp2_with fail;go_ret
       exact⟨by rw[HF.out];rfl,hN0.trans hN⟩
def qr (f:Int×Int×Int×Int):Value:= .agg #[I f.1,.int .u8 f.2.1,I f.2.2.1,I f.2.2.2]
def gf (g:Gr):Int×Int×Int×Int:=
 if 32<g.acts.length then(81,1,32,0)
 else if 96<g.edges.length then(81,2,96,0)
 else if 16<g.ins.length then(81,3,16,0)
 else if 16<g.outs.length then(81,4,16,0)
 else(0,0,0,0)
theorem ay (w:World) (o:Obj):(w.alloc o).heap.size=w.heap.size+1:=by
 show(w.heap.push o).size=_
 rw[Array.size_push]
set_option maxRecDepth 100000 in
set_option maxHeartbeats 4000000 in
theorem rp (w:World) (g:Gr) (hl:GLen g):
  Calls Tryz.prog 102 #[g.v] w fun en w'=>en= .returned (qr (gf g))∧New w w':=by
 have hla:=hl.a;have hle:=hl.e;have hli:=hl.i;have hlo:=hl.o;clear hl;unfold gf;obtain⟨gname,gaa,gac,gacts,gea,gec,gedges,gia,gic,gins,goa,goc,gouts⟩:=g;simp only at*;simp only[Gr.v,Gr.cs];by_cases h0:32<gacts.length
 ·rw[if_pos h0];have d0:decide ((32:Int)<(gacts.length:Int))=true:=decide_eq_true (by omega);clear h0;go_enter Tryz.func102,Tryz.ntmps102;go_wp2_with fail;exact bodyPost_ret (v:= .agg #[I 81,.int .u8 1,I 32,I 0]) (by simp[results,Tryz.results102,go_sem]) rfl ⟨rfl,((New.refl w).alloc _).alloc _⟩
 ·rw[if_neg h0];by_cases h1:96<gedges.length
  ·rw[if_pos h1];have d0:decide ((32:Int)<(gacts.length:Int))=false:=decide_eq_false (by omega);have d1:decide ((96:Int)<(gedges.length:Int))=true:=decide_eq_true (by omega);clear h0 h1;go_enter Tryz.func102,Tryz.ntmps102;go_wp2_with fail;exact bodyPost_ret (v:= .agg #[I 81,.int .u8 2,I 96,I 0]) (by simp[results,Tryz.results102,go_sem]) rfl ⟨rfl,((New.refl w).alloc _).alloc _⟩
  ·rw[if_neg h1];by_cases h2:16<gins.length
   ·rw[if_pos h2];have d0:decide ((32:Int)<(gacts.length:Int))=false:=decide_eq_false (by omega);have d1:decide ((96:Int)<(gedges.length:Int))=false:=decide_eq_false (by omega);have d2:decide ((16:Int)<(gins.length:Int))=true:=decide_eq_true (by omega);clear h0 h1 h2;go_enter Tryz.func102,Tryz.ntmps102;go_wp2_with fail;exact bodyPost_ret (v:= .agg #[I 81,.int .u8 3,I 16,I 0]) (by simp[results,Tryz.results102,go_sem]) rfl ⟨rfl,((New.refl w).alloc _).alloc _⟩
   ·rw[if_neg h2];by_cases h3:16<gouts.length
    ·rw[if_pos h3];have d0:decide ((32:Int)<(gacts.length:Int))=false:=decide_eq_false (by omega);have d1:decide ((96:Int)<(gedges.length:Int))=false:=decide_eq_false (by omega);have d2:decide ((16:Int)<(gins.length:Int))=false:=decide_eq_false (by omega);have d3:decide ((16:Int)<(gouts.length:Int))=true:=decide_eq_true (by omega);clear h0 h1 h2 h3;go_enter Tryz.func102,Tryz.ntmps102;go_wp2_with fail;exact bodyPost_ret (v:= .agg #[I 81,.int .u8 4,I 16,I 0]) (by simp[results,Tryz.results102,go_sem]) rfl ⟨rfl,((New.refl w).alloc _).alloc _⟩
    ·rw[if_neg h3];have d0:decide ((32:Int)<(gacts.length:Int))=false:=decide_eq_false (by omega);have d1:decide ((96:Int)<(gedges.length:Int))=false:=decide_eq_false (by omega);have d2:decide ((16:Int)<(gins.length:Int))=false:=decide_eq_false (by omega);have d3:decide ((16:Int)<(gouts.length:Int))=false:=decide_eq_false (by omega);clear h0 h1 h2 h3;go_enter Tryz.func102,Tryz.ntmps102;go_wp2_with fail;exact bodyPost_ret (v:= .agg #[I 0,.int .u8 0,I 0,I 0]) (by simp[results,Tryz.results102,go_sem]) rfl ⟨rfl,((New.refl w).alloc _).alloc _⟩
set_option maxRecDepth 100000 in
set_option maxHeartbeats 4000000 in
theorem oX (w:World) (g:Gr) (i:Nat) (hg:GrAt w g) (hl:GLen g) (hi:i<g.acts.length):
  Calls Tryz.prog 103 #[g.v,I i] w fun en w'=>en= .returned (I (dS g i g.acts[i]).1)∧New w w':=by
 have hsa:=hg.sa;have hla:=hl.a;have hxn:=(hl.ax _ (List.getElem_mem hi)).1;have hxs:=(hl.ax _ (List.getElem_mem hi)).2;have HN:∀W (k:New w W),Calls Tryz.prog 133 #[g.v,I i,I 0,I 0,.string g.acts[i].name] W fun en w'=>en= .returned (.bool ((aq g i 0 0).any (fun t=>decide (aC t=aC g.acts[i].name))))∧New W w':=
  fun W k=>by simpa using i7 W g i 0 0 g.acts[i].name (hg.new k) hl (by omega) (by omega) (by omega)
 have HO:∀W (k:New w W),Calls Tryz.prog 134 #[.int .u8 g.acts[i].tag,.slice g.acts[i].a g.acts[i].xs.length g.acts[i].c] W (av W (aj g.acts[i].tag g.acts[i].xs)):=
  fun W k=>lW _ _ _ _ W ((hg.ax _ (List.getElem_mem hi)).new k) hxn
 have HNM:∀W,Calls Tryz.prog 80 #[.string g.acts[i].name] W fun e w'=>e= .returned (.bool (aM g.acts[i].name))∧New W w':=fun W=>dK W _ hxs
 have hE:(dS g i g.acts[i]).1=if aM g.acts[i].name=false then 82 else if(aq g i 0 0).any (fun t=>decide (aC t=aC g.acts[i].name)) then 83 else(aj g.acts[i].tag g.acts[i].xs).1:=by
  unfold dS cq;by_cases h1:aM g.acts[i].name=false
  ·simp[h1]
  ·by_cases h2:(aq g i 0 0).any (fun t=>decide (aC t=aC g.acts[i].name))=true
   ·simp only[h1,h2];simp
   ·simp only[h1,h2];simp
 rw[hE];clear hE;generalize((aq g i 0 0).any (fun t=>decide (aC t=aC g.acts[i].name)))=tk at HN ⊢;generalize aj g.acts[i].tag g.acts[i].xs=sh at HO ⊢;obtain⟨b,off,hab,q0,q1,q2⟩:=cM hsa hi;have hi0:(i:Int)<(g.acts.length:Int):=by omega
 have hbw:b<w.heap.size:=World.block_lt_of_cell? w _ q0;generalize g.acts[i]=x at q0 q1 q2 HN HO HNM hxn hxs ⊢;generalize aM x.name=nb at HNM ⊢;clear hg hl hsa;obtain⟨gname,gaa,gac,gacts,gea,gec,gedges,gia,gic,gins,goa,goc,gouts⟩:=g;simp only at HN hab hi hi0 hla;simp only[Gr.v,Gr.cs] at HN ⊢;subst hab;clear hxn hxs;cases nb with
 |false=>
  rw[if_pos rfl];go_enter Tryz.func103,Tryz.ntmps103;go_wp2_with fail;have hs0:(w.alloc (.cells #[.string gname,.slice (some ⟨b,off,none⟩) gacts.length gac,.slice gea gedges.length gec,.slice gia gins.length gic,.slice goa gouts.length goc] 26)).heap.size=w.heap.size+1:=ay _ _;have hN0:New w (w.alloc (.cells #[.string gname,.slice (some ⟨b,off,none⟩) gacts.length gac,.slice gea gedges.length gec,.slice gia gins.length gic,.slice goa gouts.length goc] 26)):=(New.refl w).alloc _;have hbx:(w.alloc (.cells #[.string gname,.slice (some ⟨b,off,none⟩) gacts.length gac,.slice gea gedges.length gec,.slice gia gins.length gic,.slice goa gouts.length goc] 26)).heap[w.heap.size]? =some (.cells #[.string gname,.slice (some ⟨b,off,none⟩) gacts.length gac,.slice gea gedges.length gec,.slice gia gins.length gic,.slice goa gouts.length goc] 26 (0,0)):=heap_alloc_new w _;generalize(w.alloc (.cells #[.string gname,.slice (some ⟨b,off,none⟩) gacts.length gac,.slice gea gedges.length gec,.slice gia gins.length gic,.slice goa gouts.length goc] 26))=w0 at hN0 hbx hs0 ⊢;have x0:w0.cell? ⟨w.heap.size,0,none⟩=some (.string gname):=by rw[cell_of_block hbx 0];simp
  have x1:w0.cell? ⟨w.heap.size,1,none⟩=some (.slice (some ⟨b,off,none⟩) gacts.length gac):=by rw[cell_of_block hbx 1];simp
  have x2:w0.cell? ⟨w.heap.size,2,none⟩=some (.slice gea gedges.length gec):=by rw[cell_of_block hbx 2];simp
  have x3:w0.cell? ⟨w.heap.size,3,none⟩=some (.slice gia gins.length gic):=by rw[cell_of_block hbx 3];simp
  have x4:w0.cell? ⟨w.heap.size,4,none⟩=some (.slice goa gouts.length goc):=by rw[cell_of_block hbx 4];simp
  clear hbx;replace q0:=hN0.cell q0;replace q1:=hN0.cell q1;replace q2:=hN0.cell q2;have hB0:w.heap.size<w0.heap.size:=World.block_lt_of_cell? w0 _ x0;have hN1:New w0 (w0.alloc (.cells #[.string x.name,.int .u8 x.tag,.slice x.a x.xs.length x.c] 63)):=(New.refl w0).alloc _;have hbx:(w0.alloc (.cells #[.string x.name,.int .u8 x.tag,.slice x.a x.xs.length x.c] 63)).heap[w0.heap.size]? =some (.cells #[.string x.name,.int .u8 x.tag,.slice x.a x.xs.length x.c] 63 (0,0)):=heap_alloc_new w0 _;generalize(w0.alloc (.cells #[.string x.name,.int .u8 x.tag,.slice x.a x.xs.length x.c] 63))=w1 at hN1 hbx ⊢;have y0:w1.cell? ⟨w0.heap.size,0,none⟩=some (.string x.name):=by rw[cell_of_block hbx 0];simp
  have y1:w1.cell? ⟨w0.heap.size,1,none⟩=some (.int .u8 x.tag):=by rw[cell_of_block hbx 1];simp
  have y2:w1.cell? ⟨w0.heap.size,2,none⟩=some (.slice x.a x.xs.length x.c):=by rw[cell_of_block hbx 2];simp
  replace x0:=hN1.cell x0;replace x1:=hN1.cell x1;replace x2:=hN1.cell x2;replace x3:=hN1.cell x3;replace x4:=hN1.cell x4;have k1:=hN0.trans hN1;rw[hs0] at y0 y1 y2;clear hN0 hN1 hbx q0 q1 q2 hs0 hB0;refine(HNM w1).mono ?_;rintro e w2 ⟨rfl,k2⟩;go_wp2_with fail;go_ret
  exact⟨rfl,k1.trans k2⟩
 |true=>
  rw[if_neg (by simp)];cases tk with
  |true=>
   rw[if_pos rfl];go_enter Tryz.func103,Tryz.ntmps103;go_wp2_with fail;have hs0:(w.alloc (.cells #[.string gname,.slice (some ⟨b,off,none⟩) gacts.length gac,.slice gea gedges.length gec,.slice gia gins.length gic,.slice goa gouts.length goc] 26)).heap.size=w.heap.size+1:=ay _ _;have hN0:New w (w.alloc (.cells #[.string gname,.slice (some ⟨b,off,none⟩) gacts.length gac,.slice gea gedges.length gec,.slice gia gins.length gic,.slice goa gouts.length goc] 26)):=(New.refl w).alloc _;have hbx:(w.alloc (.cells #[.string gname,.slice (some ⟨b,off,none⟩) gacts.length gac,.slice gea gedges.length gec,.slice gia gins.length gic,.slice goa gouts.length goc] 26)).heap[w.heap.size]? =some (.cells #[.string gname,.slice (some ⟨b,off,none⟩) gacts.length gac,.slice gea gedges.length gec,.slice gia gins.length gic,.slice goa gouts.length goc] 26 (0,0)):=heap_alloc_new w _;generalize(w.alloc (.cells #[.string gname,.slice (some ⟨b,off,none⟩) gacts.length gac,.slice gea gedges.length gec,.slice gia gins.length gic,.slice goa gouts.length goc] 26))=w0 at hN0 hbx hs0 ⊢;have x0:w0.cell? ⟨w.heap.size,0,none⟩=some (.string gname):=by rw[cell_of_block hbx 0];simp
   have x1:w0.cell? ⟨w.heap.size,1,none⟩=some (.slice (some ⟨b,off,none⟩) gacts.length gac):=by rw[cell_of_block hbx 1];simp
   have x2:w0.cell? ⟨w.heap.size,2,none⟩=some (.slice gea gedges.length gec):=by rw[cell_of_block hbx 2];simp
   have x3:w0.cell? ⟨w.heap.size,3,none⟩=some (.slice gia gins.length gic):=by rw[cell_of_block hbx 3];simp
   have x4:w0.cell? ⟨w.heap.size,4,none⟩=some (.slice goa gouts.length goc):=by rw[cell_of_block hbx 4];simp
   clear hbx;replace q0:=hN0.cell q0;replace q1:=hN0.cell q1;replace q2:=hN0.cell q2;have hB0:w.heap.size<w0.heap.size:=World.block_lt_of_cell? w0 _ x0;have hN1:New w0 (w0.alloc (.cells #[.string x.name,.int .u8 x.tag,.slice x.a x.xs.length x.c] 63)):=(New.refl w0).alloc _;have hbx:(w0.alloc (.cells #[.string x.name,.int .u8 x.tag,.slice x.a x.xs.length x.c] 63)).heap[w0.heap.size]? =some (.cells #[.string x.name,.int .u8 x.tag,.slice x.a x.xs.length x.c] 63 (0,0)):=heap_alloc_new w0 _;generalize(w0.alloc (.cells #[.string x.name,.int .u8 x.tag,.slice x.a x.xs.length x.c] 63))=w1 at hN1 hbx ⊢;have y0:w1.cell? ⟨w0.heap.size,0,none⟩=some (.string x.name):=by rw[cell_of_block hbx 0];simp
   have y1:w1.cell? ⟨w0.heap.size,1,none⟩=some (.int .u8 x.tag):=by rw[cell_of_block hbx 1];simp
   have y2:w1.cell? ⟨w0.heap.size,2,none⟩=some (.slice x.a x.xs.length x.c):=by rw[cell_of_block hbx 2];simp
   replace x0:=hN1.cell x0;replace x1:=hN1.cell x1;replace x2:=hN1.cell x2;replace x3:=hN1.cell x3;replace x4:=hN1.cell x4;have k1:=hN0.trans hN1;rw[hs0] at y0 y1 y2;clear hN0 hN1 hbx q0 q1 q2 hs0 hB0;refine(HNM w1).mono ?_;rintro e w2 ⟨rfl,k2⟩;replace x0:=k2.cell x0;replace x1:=k2.cell x1;replace x2:=k2.cell x2;replace x3:=k2.cell x3;replace x4:=k2.cell x4;replace y0:=k2.cell y0;replace y1:=k2.cell y1;replace y2:=k2.cell y2;replace k1:=k1.trans k2;clear k2;go_wp2_with fail;refine(HN w2 k1).mono ?_;rintro e w3 ⟨rfl,k3⟩;go_wp2_with fail;go_ret
   exact⟨rfl,k1.trans k3⟩
  |false=>
   rw[if_neg (by simp)];go_enter Tryz.func103,Tryz.ntmps103;go_wp2_with fail;have hs0:(w.alloc (.cells #[.string gname,.slice (some ⟨b,off,none⟩) gacts.length gac,.slice gea gedges.length gec,.slice gia gins.length gic,.slice goa gouts.length goc] 26)).heap.size=w.heap.size+1:=ay _ _;have hN0:New w (w.alloc (.cells #[.string gname,.slice (some ⟨b,off,none⟩) gacts.length gac,.slice gea gedges.length gec,.slice gia gins.length gic,.slice goa gouts.length goc] 26)):=(New.refl w).alloc _;have hbx:(w.alloc (.cells #[.string gname,.slice (some ⟨b,off,none⟩) gacts.length gac,.slice gea gedges.length gec,.slice gia gins.length gic,.slice goa gouts.length goc] 26)).heap[w.heap.size]? =some (.cells #[.string gname,.slice (some ⟨b,off,none⟩) gacts.length gac,.slice gea gedges.length gec,.slice gia gins.length gic,.slice goa gouts.length goc] 26 (0,0)):=heap_alloc_new w _;generalize(w.alloc (.cells #[.string gname,.slice (some ⟨b,off,none⟩) gacts.length gac,.slice gea gedges.length gec,.slice gia gins.length gic,.slice goa gouts.length goc] 26))=w0 at hN0 hbx hs0 ⊢;have x0:w0.cell? ⟨w.heap.size,0,none⟩=some (.string gname):=by rw[cell_of_block hbx 0];simp
   have x1:w0.cell? ⟨w.heap.size,1,none⟩=some (.slice (some ⟨b,off,none⟩) gacts.length gac):=by rw[cell_of_block hbx 1];simp
   have x2:w0.cell? ⟨w.heap.size,2,none⟩=some (.slice gea gedges.length gec):=by rw[cell_of_block hbx 2];simp
   have x3:w0.cell? ⟨w.heap.size,3,none⟩=some (.slice gia gins.length gic):=by rw[cell_of_block hbx 3];simp
   have x4:w0.cell? ⟨w.heap.size,4,none⟩=some (.slice goa gouts.length goc):=by rw[cell_of_block hbx 4];simp
   clear hbx;replace q0:=hN0.cell q0;replace q1:=hN0.cell q1;replace q2:=hN0.cell q2;have hB0:w.heap.size<w0.heap.size:=World.block_lt_of_cell? w0 _ x0;have hN1:New w0 (w0.alloc (.cells #[.string x.name,.int .u8 x.tag,.slice x.a x.xs.length x.c] 63)):=(New.refl w0).alloc _;have hbx:(w0.alloc (.cells #[.string x.name,.int .u8 x.tag,.slice x.a x.xs.length x.c] 63)).heap[w0.heap.size]? =some (.cells #[.string x.name,.int .u8 x.tag,.slice x.a x.xs.length x.c] 63 (0,0)):=heap_alloc_new w0 _;generalize(w0.alloc (.cells #[.string x.name,.int .u8 x.tag,.slice x.a x.xs.length x.c] 63))=w1 at hN1 hbx ⊢;have y0:w1.cell? ⟨w0.heap.size,0,none⟩=some (.string x.name):=by rw[cell_of_block hbx 0];simp
   have y1:w1.cell? ⟨w0.heap.size,1,none⟩=some (.int .u8 x.tag):=by rw[cell_of_block hbx 1];simp
   have y2:w1.cell? ⟨w0.heap.size,2,none⟩=some (.slice x.a x.xs.length x.c):=by rw[cell_of_block hbx 2];simp
   replace x0:=hN1.cell x0;replace x1:=hN1.cell x1;replace x2:=hN1.cell x2;replace x3:=hN1.cell x3;replace x4:=hN1.cell x4;have k1:=hN0.trans hN1;rw[hs0] at y0 y1 y2;clear hN0 hN1 hbx q0 q1 q2 hs0 hB0;refine(HNM w1).mono ?_;rintro e w2 ⟨rfl,k2⟩;replace x0:=k2.cell x0;replace x1:=k2.cell x1;replace x2:=k2.cell x2;replace x3:=k2.cell x3;replace x4:=k2.cell x4;replace y0:=k2.cell y0;replace y1:=k2.cell y1;replace y2:=k2.cell y2;replace k1:=k1.trans k2;clear k2;go_wp2_with fail;refine(HN w2 k1).mono ?_;rintro e w3 ⟨rfl,k3⟩;replace y1:=k3.cell y1;replace y2:=k3.cell y2;replace k1:=k1.trans k3;clear k3;go_wp2_with fail;refine(HO w3 k1).mono ?_;rintro e w4 ⟨aa,ca,ab,cb,rfl,_,_,_,k4⟩;go_wp2_with fail;go_ret
   exact⟨rfl,k1.trans k4⟩
end Go.Proofs.YtnedmonlofbahaaGreatDoor
