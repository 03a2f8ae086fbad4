/-
  GrG, GrH, GrI, GrJ: what is wanted of them.
-/
import Derived.Test.YtnedmonlofbahaaGreatDoorGwA
import Derived.Deep.RegionHeld3
import Derived.Maps.OwnOps
import Derived.Maps.OwnSet
import Derived.Maps.Views
set_option maxRecDepth 100000
set_option maxHeartbeats 8000000
namespace Go.Proofs.YtnedmonlofbahaaGreatDoor
open Go Go.RowKit Go.Joins
set_option linter.all false
theorem wJ (w:World) (g:Gr) (i:Nat) (hg:GrAt w g) (hl:GLen g) (hi:i<g.edges.length):
  Calls Tryz.prog 104 #[g.v,I i] w fun en w'=>en= .returned (.tuple #[I (dd g i g.edges[i]).1,I (dd g i g.edges[i]).2])∧New w w':=by
 have hse:=hg.se;have hla:=hl.a;have hle:=hl.e;have hli:=hl.i;have hlo:=hl.o;have hxn:=hl.ex _ (List.getElem_mem hi);obtain⟨b,off,hab,q0,q1,q2,q3,q4⟩:=fH hse hi;have hi0:(i:Int)<(g.edges.length:Int):=by omega
 have hbw:b<w.heap.size:=World.block_lt_of_cell? w _ q0;generalize g.edges[i]=x at q0 q1 q2 q3 q4 hxn ⊢;have HTA:∀W (k:New w W),Calls Tryz.prog 136 #[g.v,I i,I 0,I x.f,I x.fp] W fun en w'=>en= .returned (.bool (aZ g i 0 x.f x.fp))∧New W w':=
  fun W k=>by simpa using lB W g i 0 x.f x.fp (hg.new k) hl (by omega) (by omega)
 have HTB:∀W (k:New w W),Calls Tryz.prog 137 #[g.v,I i,I 0,I x.t,I x.tp] W fun en w'=>en= .returned (.bool (bZ g i 0 x.t x.tp))∧New W w':=
  fun W k=>by simpa using mJ W g i 0 x.t x.tp (hg.new k) hl (by omega) (by omega)
 have HEA:∀W (k:New w W),Calls Tryz.prog 135 #[g.v,I x.f,I x.fp,.bool true,.bool (aZ g i 0 x.f x.fp)] W fun en w'=>en= .returned (I (dp g cr (aZ g i 0 x.f x.fp) x.f x.fp))∧New W w':=
  fun W k=>me W g x.f x.fp true (aZ g i 0 x.f x.fp) (hg.new k) hl
 have HEB:∀W (k:New w W),Calls Tryz.prog 135 #[g.v,I x.t,I x.tp,.bool false,.bool (bZ g i 0 x.t x.tp)] W fun en w'=>en= .returned (I (dp g nIn (bZ g i 0 x.t x.tp) x.t x.tp))∧New W w':=
  fun W k=>me W g x.t x.tp false (bZ g i 0 x.t x.tp) (hg.new k) hl
 have hEE:dd g i x=if dp g cr (aZ g i 0 x.f x.fp) x.f x.fp≠0 then(dp g cr (aZ g i 0 x.f x.fp) x.f x.fp,1)
   else if dp g nIn (bZ g i 0 x.t x.tp) x.t x.tp≠0 then(dp g nIn (bZ g i 0 x.t x.tp) x.t x.tp,2)
   else if 256<x.xs.length then(88,0) else(0,0):=rfl
 rw[hEE];clear hEE;generalize dp g cr (aZ g i 0 x.f x.fp) x.f x.fp=EA at HEA ⊢;generalize dp g nIn (bZ g i 0 x.t x.tp) x.t x.tp=EB at HEB ⊢;generalize aZ g i 0 x.f x.fp=tkA at HTA HEA;generalize bZ g i 0 x.t x.tp=tkB at HTB HEB;have HC:=HTA;have HN:=HTB;clear hg hl hse;obtain⟨ay,gaa,gac,ak,gea,gec,ah,gia,gic,aC,goa,goc,au⟩:=g;simp only at HTA HTB HEA HEB hab hi hi0 hla hle hli hlo;simp only[Gr.v,Gr.cs] at HTA HTB HEA HEB ⊢;subst hab;clear HC HN;obtain⟨post,cu⟩:∃post:Ending->World->Prop,post=fun en w'=>en= .returned (.tuple #[I (if EA≠0 then(EA,(1:Int)) else if EB≠0 then(EB,2) else if 256<x.xs.length then(88,0) else(0,0)).1,I (if EA≠0 then(EA,(1:Int)) else if EB≠0 then(EB,2) else if 256<x.xs.length then(88,0) else(0,0)).2])∧New w w':=⟨_,rfl⟩
 rw[<-cu];have HPO:=Lib.hid cu;clear cu;go_enter Tryz.func104,Tryz.ntmps104;go_wp2_with fail;have hs0:(w.alloc (.cells #[.string ay,.slice gaa ak.length gac,.slice (some ⟨b,off,none⟩) ah.length gec,.slice gia aC.length gic,.slice goa au.length goc] 26)).heap.size=w.heap.size+1:=aG _ _;have hN0:New w (w.alloc (.cells #[.string ay,.slice gaa ak.length gac,.slice (some ⟨b,off,none⟩) ah.length gec,.slice gia aC.length gic,.slice goa au.length goc] 26)):=(New.refl w).alloc _;have hbx:(w.alloc (.cells #[.string ay,.slice gaa ak.length gac,.slice (some ⟨b,off,none⟩) ah.length gec,.slice gia aC.length gic,.slice goa au.length goc] 26)).heap[w.heap.size]? =some (.cells #[.string ay,.slice gaa ak.length gac,.slice (some ⟨b,off,none⟩) ah.length gec,.slice gia aC.length gic,.slice goa au.length goc] 26 (0,0)):=heap_alloc_new w _;generalize(w.alloc (.cells #[.string ay,.slice gaa ak.length gac,.slice (some ⟨b,off,none⟩) ah.length gec,.slice gia aC.length gic,.slice goa au.length goc] 26))=w0 at hN0 hbx hs0 ⊢;have x0:w0.cell? ⟨w.heap.size,0,none⟩=some (.string ay):=by rw[cell_of_block hbx 0];simp
 have x1:w0.cell? ⟨w.heap.size,1,none⟩=some (.slice gaa ak.length gac):=by rw[cell_of_block hbx 1];simp
 have x2:w0.cell? ⟨w.heap.size,2,none⟩=some (.slice (some ⟨b,off,none⟩) ah.length gec):=by rw[cell_of_block hbx 2];simp
 have x3:w0.cell? ⟨w.heap.size,3,none⟩=some (.slice gia aC.length gic):=by rw[cell_of_block hbx 3];simp
 have x4:w0.cell? ⟨w.heap.size,4,none⟩=some (.slice goa au.length goc):=by rw[cell_of_block hbx 4];simp
 clear hbx;have hN1:New w0 (w0.alloc (.cells #[I x.f,I x.fp,I x.t,I x.tp,.slice x.a x.xs.length x.c] 66)):=(New.refl w0).alloc _;have hbx:(w0.alloc (.cells #[I x.f,I x.fp,I x.t,I x.tp,.slice x.a x.xs.length x.c] 66)).heap[w0.heap.size]? =some (.cells #[I x.f,I x.fp,I x.t,I x.tp,.slice x.a x.xs.length x.c] 66 (0,0)):=heap_alloc_new w0 _;generalize(w0.alloc (.cells #[I x.f,I x.fp,I x.t,I x.tp,.slice x.a x.xs.length x.c] 66))=w1 at hN1 hbx ⊢;have y0:w1.cell? ⟨w0.heap.size,0,none⟩=some (I x.f):=by rw[cell_of_block hbx 0];simp
 have y1:w1.cell? ⟨w0.heap.size,1,none⟩=some (I x.fp):=by rw[cell_of_block hbx 1];simp
 have y2:w1.cell? ⟨w0.heap.size,2,none⟩=some (I x.t):=by rw[cell_of_block hbx 2];simp
 have y3:w1.cell? ⟨w0.heap.size,3,none⟩=some (I x.tp):=by rw[cell_of_block hbx 3];simp
 have y4:w1.cell? ⟨w0.heap.size,4,none⟩=some (.slice x.a x.xs.length x.c):=by rw[cell_of_block hbx 4];simp
 rw[hs0] at y0 y1 y2 y3 y4;replace x0:=hN1.cell x0;replace x1:=hN1.cell x1;replace x2:=hN1.cell x2;replace x3:=hN1.cell x3;replace x4:=hN1.cell x4;have k1:=hN0.trans hN1;clear hN0 hN1 hbx hs0;clear q0 q1 q2 q3 q4;have hT:∀W,New w1 W->Calls Tryz.prog 136 #[(.agg #[.string ay,.slice gaa ak.length gac,.slice (some ⟨b,off,none⟩) ah.length gec,.slice gia aC.length gic,.slice goa au.length goc]),I i,I 0,I x.f,I x.fp] W fun en w'=>en= .returned (.bool tkA)∧New w1 w':=fun W k=>(HTA W (k1.trans k)).mono fun _ _ h=>⟨h.1,k.trans h.2⟩
 have hE:∀W,New w1 W->Calls Tryz.prog 135 #[(.agg #[.string ay,.slice gaa ak.length gac,.slice (some ⟨b,off,none⟩) ah.length gec,.slice gia aC.length gic,.slice goa au.length goc]),I x.f,I x.fp,.bool true,.bool tkA] W fun en w'=>en= .returned (I EA)∧New w1 w':=fun W k=>(HEA W (k1.trans k)).mono fun _ _ h=>⟨h.1,k.trans h.2⟩
 go_region_held3 (fun w'=>w'.cell? ⟨w.heap.size,0,none⟩=some (.string ay)∧w'.cell? ⟨w.heap.size,1,none⟩=some (.slice gaa ak.length gac)∧w'.cell? ⟨w.heap.size,2,none⟩=some (.slice (some ⟨b,off,none⟩) ah.length gec)∧w'.cell? ⟨w.heap.size,3,none⟩=some (.slice gia aC.length gic)∧w'.cell? ⟨w.heap.size,4,none⟩=some (.slice goa au.length goc)∧w'.cell? ⟨w.heap.size+1,0,none⟩=some (I x.f)∧w'.cell? ⟨w.heap.size+1,1,none⟩=some (I x.fp)∧w'.cell? ⟨w.heap.size+1,2,none⟩=some (I x.t)∧w'.cell? ⟨w.heap.size+1,3,none⟩=some (I x.tp)∧w'.cell? ⟨w.heap.size+1,4,none⟩=some (.slice x.a x.xs.length x.c)∧New w1 w')
  ((refine⟨New.cell (w:=w1) ?_ x0,New.cell (w:=w1) ?_ x1,New.cell (w:=w1) ?_ x2,New.cell (w:=w1) ?_ x3,New.cell (w:=w1) ?_ x4,New.cell (w:=w1) ?_ y0,New.cell (w:=w1) ?_ y1,New.cell (w:=w1) ?_ y2,New.cell (w:=w1) ?_ y3,New.cell (w:=w1) ?_ y4,?_⟩<;>(repeat(first|exact New.refl w1|exact n3|exact n2|refine New.drew ?_))))
  ((first|(go_at_call 136;refine(hT _ ((New.refl w1).drew)).mono ?_;rintro e w2 ⟨rfl,n2⟩)|(go_at_call 135;(first|refine(hE _ n2).mono ?_|refine(hE _ n2.drew).mono ?_);rintro e w3 ⟨rfl,n3⟩)))
 rename_i hSX;clear hT hE x0 x1 x2 x3 x4 y0 y1 y2 y3 y4;obtain⟨x0,x1,x2,x3,x4,y0,y1,y2,y3,y4,hNX⟩:=hSX;replace k1:=k1.trans hNX;simp only[Exit.then];by_cases hA:EA=0
 rotate_left 1
 ·have hd:(EA != 0)=true:=by simp[hA]
  go_wp2_with fail;rw[HPO.out,if_pos hA];exact⟨rfl,k1⟩
 have hdA:(EA != 0)=false:=by simp[hA]
 have hAA:(if EA≠0 then(EA,(1:Int)) else if EB≠0 then(EB,2) else if 256<x.xs.length then(88,0) else(0,0))=if EB≠0 then(EB,2) else if 256<x.xs.length then(88,0) else(0,0):=if_neg (by simpa using hA)
 have HAA:=Lib.hid hAA;clear hA hAA;clear HTA HEA;go_wp2_with fail;have hT:∀W,New w3 W->Calls Tryz.prog 137 #[(.agg #[.string ay,.slice gaa ak.length gac,.slice (some ⟨b,off,none⟩) ah.length gec,.slice gia aC.length gic,.slice goa au.length goc]),I i,I 0,I x.t,I x.tp] W fun en w'=>en= .returned (.bool tkB)∧New w3 w':=fun W k=>(HTB W (k1.trans k)).mono fun _ _ h=>⟨h.1,k.trans h.2⟩
 have hE:∀W,New w3 W->Calls Tryz.prog 135 #[(.agg #[.string ay,.slice gaa ak.length gac,.slice (some ⟨b,off,none⟩) ah.length gec,.slice gia aC.length gic,.slice goa au.length goc]),I x.t,I x.tp,.bool false,.bool tkB] W fun en w'=>en= .returned (I EB)∧New w3 w':=fun W k=>(HEB W (k1.trans k)).mono fun _ _ h=>⟨h.1,k.trans h.2⟩
 go_region_held3 (fun w'=>w'.cell? ⟨w.heap.size,0,none⟩=some (.string ay)∧w'.cell? ⟨w.heap.size,1,none⟩=some (.slice gaa ak.length gac)∧w'.cell? ⟨w.heap.size,2,none⟩=some (.slice (some ⟨b,off,none⟩) ah.length gec)∧w'.cell? ⟨w.heap.size,3,none⟩=some (.slice gia aC.length gic)∧w'.cell? ⟨w.heap.size,4,none⟩=some (.slice goa au.length goc)∧w'.cell? ⟨w.heap.size+1,0,none⟩=some (I x.f)∧w'.cell? ⟨w.heap.size+1,1,none⟩=some (I x.fp)∧w'.cell? ⟨w.heap.size+1,2,none⟩=some (I x.t)∧w'.cell? ⟨w.heap.size+1,3,none⟩=some (I x.tp)∧w'.cell? ⟨w.heap.size+1,4,none⟩=some (.slice x.a x.xs.length x.c)∧New w3 w')
  ((refine⟨New.cell (w:=w3) ?_ x0,New.cell (w:=w3) ?_ x1,New.cell (w:=w3) ?_ x2,New.cell (w:=w3) ?_ x3,New.cell (w:=w3) ?_ x4,New.cell (w:=w3) ?_ y0,New.cell (w:=w3) ?_ y1,New.cell (w:=w3) ?_ y2,New.cell (w:=w3) ?_ y3,New.cell (w:=w3) ?_ y4,?_⟩<;>(repeat(first|exact New.refl w3|exact n3|exact n2|refine New.drew ?_))))
  ((first|(go_at_call 137;refine(hT _ ((New.refl w3).drew)).mono ?_;rintro e w2 ⟨rfl,n2⟩)|(go_at_call 135;(first|refine(hE _ n2).mono ?_|refine(hE _ n2.drew).mono ?_);rintro e w4 ⟨rfl,n3⟩)))
 rename_i hSX;clear hT hE x0 x1 x2 x3 x4 y0 y1 y2 y3 y4;obtain⟨x0,x1,x2,x3,x4,y0,y1,y2,y3,y4,hNX⟩:=hSX;replace k1:=k1.trans hNX;simp only[Exit.then];by_cases hB:EB=0
 rotate_left 1
 ·have hd:(EB != 0)=true:=by simp[hB]
  go_wp2_with fail;rw[HPO.out,HAA.out,if_pos hB];exact⟨rfl,k1⟩
 have hdB:(EB != 0)=false:=by simp[hB]
 by_cases hm:256<x.xs.length
 ·have hd:decide ((256:Int)<(x.xs.length:Int))=true:=decide_eq_true (by omega);go_wp2_with fail;rw[HPO.out,HAA.out,if_neg (by simpa using hB),if_pos hm];exact⟨rfl,k1⟩
 ·have hd:decide ((256:Int)<(x.xs.length:Int))=false:=decide_eq_false (by omega);go_wp2_with fail;rw[HPO.out,HAA.out,if_neg (by simpa using hB),if_neg hm];exact⟨rfl,k1⟩
theorem AE (w:World) (g:Gr) (i:Nat) (hg:GrAt w g) (hl:GLen g) (hi:i<g.ins.length):
  Calls Tryz.prog 105 #[g.v,I i] w fun en w'=>en= .returned (.tuple #[I (inE g i g.ins[i]).1,I (inE g i g.ins[i]).2])∧New w w':=by
 have hla:=hl.a;have hle:=hl.e;have hli:=hl.i;have hlo:=hl.o;have hxs:=hl.ix _ (List.getElem_mem hi);obtain⟨b,off,hab,q0,q1,q2⟩:=ej hg.si hi;have hi0:(i:Int)<(g.ins.length:Int):=by omega
 have hbw:b<w.heap.size:=World.block_lt_of_cell? w _ q0;generalize g.ins[i]=x at q0 q1 q2 hxs ⊢;have HM:∀W,Calls Tryz.prog 80 #[.string x.name] W fun e w'=>e= .returned (.bool (aQ x.name))∧New W w':=fun W=>kI W _ hxs
 have HN:∀W (k:New w W),Calls Tryz.prog 133 #[g.v,I g.acts.length,I i,I 0,.string x.name] W fun en w'=>en= .returned (.bool ((aw g g.acts.length i 0).any (fun t=>decide (aB t=aB x.name))))∧New W w':=
  fun W k=>by simpa using lA W g g.acts.length i 0 x.name (hg.new k) hl (by omega) (by omega) (by omega)
 have HTA:∀W (k:New w W),Calls Tryz.prog 137 #[g.v,I g.edges.length,I i,I x.ac,I x.po] W fun en w'=>en= .returned (.bool (bZ g g.edges.length i x.ac x.po))∧New W w':=
  fun W k=>mJ W g g.edges.length i x.ac x.po (hg.new k) hl (by omega) (by omega)
 have HEA:∀W (k:New w W),Calls Tryz.prog 135 #[g.v,I x.ac,I x.po,.bool false,.bool (bZ g g.edges.length i x.ac x.po)] W fun en w'=>en= .returned (I (dp g nIn (bZ g g.edges.length i x.ac x.po) x.ac x.po))∧New W w':=
  fun W k=>me W g x.ac x.po false (bZ g g.edges.length i x.ac x.po) (hg.new k) hl
 have hEE:inE g i x=if aQ x.name=false then(82,0) else if(aw g g.acts.length i 0).any (fun t=>decide (aB t=aB x.name)) then(83,0) else(dp g nIn (bZ g g.edges.length i x.ac x.po) x.ac x.po,2):=by
  unfold inE cP;by_cases h1:aQ x.name=false
  ·simp[h1]
  ·by_cases h2:(aw g g.acts.length i 0).any (fun t=>decide (aB t=aB x.name))=true
   ·simp only[h1,h2];simp
   ·simp only[h1,h2];simp
 rw[hEE];clear hEE;generalize dp g nIn (bZ g g.edges.length i x.ac x.po) x.ac x.po=EA at HEA ⊢;generalize bZ g g.edges.length i x.ac x.po=tkA at HTA HEA;generalize(aw g g.acts.length i 0).any (fun t=>decide (aB t=aB x.name))=tn at HN ⊢;generalize aQ x.name=nb at HM ⊢;have HC:=HM;clear hg hl;obtain⟨ay,gaa,gac,ak,gea,gec,ah,gia,gic,aC,goa,goc,au⟩:=g;simp only at HTA HEA HN hab hi hi0 hla hle hli hlo;simp only[Gr.v,Gr.cs] at HTA HEA HN ⊢;subst hab;clear HC;obtain⟨post,cu⟩:∃post:Ending->World->Prop,post=fun en w'=>en= .returned (.tuple #[I (if nb=false then((82:Int),(0:Int)) else if tn=true then(83,0) else(EA,2)).1,I (if nb=false then((82:Int),(0:Int)) else if tn=true then(83,0) else(EA,2)).2])∧New w w':=⟨_,rfl⟩
 rw[<-cu];have HPO:=Lib.hid cu;clear cu;go_enter Tryz.func105,Tryz.ntmps105;go_wp2_with fail;have hs0:(w.alloc (.cells #[.string ay,.slice gaa ak.length gac,.slice gea ah.length gec,.slice (some ⟨b,off,none⟩) aC.length gic,.slice goa au.length goc] 26)).heap.size=w.heap.size+1:=aG _ _;have hN0:New w (w.alloc (.cells #[.string ay,.slice gaa ak.length gac,.slice gea ah.length gec,.slice (some ⟨b,off,none⟩) aC.length gic,.slice goa au.length goc] 26)):=(New.refl w).alloc _;have hbx:(w.alloc (.cells #[.string ay,.slice gaa ak.length gac,.slice gea ah.length gec,.slice (some ⟨b,off,none⟩) aC.length gic,.slice goa au.length goc] 26)).heap[w.heap.size]? =some (.cells #[.string ay,.slice gaa ak.length gac,.slice gea ah.length gec,.slice (some ⟨b,off,none⟩) aC.length gic,.slice goa au.length goc] 26 (0,0)):=heap_alloc_new w _;generalize(w.alloc (.cells #[.string ay,.slice gaa ak.length gac,.slice gea ah.length gec,.slice (some ⟨b,off,none⟩) aC.length gic,.slice goa au.length goc] 26))=w0 at hN0 hbx hs0 ⊢;have x0:w0.cell? ⟨w.heap.size,0,none⟩=some (.string ay):=by rw[cell_of_block hbx 0];simp
 have x1:w0.cell? ⟨w.heap.size,1,none⟩=some (.slice gaa ak.length gac):=by rw[cell_of_block hbx 1];simp
 have x2:w0.cell? ⟨w.heap.size,2,none⟩=some (.slice gea ah.length gec):=by rw[cell_of_block hbx 2];simp
 have x3:w0.cell? ⟨w.heap.size,3,none⟩=some (.slice (some ⟨b,off,none⟩) aC.length gic):=by rw[cell_of_block hbx 3];simp
 have x4:w0.cell? ⟨w.heap.size,4,none⟩=some (.slice goa au.length goc):=by rw[cell_of_block hbx 4];simp
 clear hbx;have hN1:New w0 (w0.alloc (.cells #[.string x.name,I x.ac,I x.po] 82)):=(New.refl w0).alloc _;have hbx:(w0.alloc (.cells #[.string x.name,I x.ac,I x.po] 82)).heap[w0.heap.size]? =some (.cells #[.string x.name,I x.ac,I x.po] 82 (0,0)):=heap_alloc_new w0 _;generalize(w0.alloc (.cells #[.string x.name,I x.ac,I x.po] 82))=w1 at hN1 hbx ⊢;have y0:w1.cell? ⟨w0.heap.size,0,none⟩=some (.string x.name):=by rw[cell_of_block hbx 0];simp
 have y1:w1.cell? ⟨w0.heap.size,1,none⟩=some (I x.ac):=by rw[cell_of_block hbx 1];simp
 have y2:w1.cell? ⟨w0.heap.size,2,none⟩=some (I x.po):=by rw[cell_of_block hbx 2];simp
 rw[hs0] at y0 y1 y2;replace x0:=hN1.cell x0;replace x1:=hN1.cell x1;replace x2:=hN1.cell x2;replace x3:=hN1.cell x3;replace x4:=hN1.cell x4;have k1:=hN0.trans hN1;clear hN0 hN1 hbx hs0;clear q0 q1 q2;refine(HM w1).mono ?_;rintro e wa ⟨rfl,k2⟩;replace x0:=k2.cell x0;replace x1:=k2.cell x1;replace x2:=k2.cell x2;replace x3:=k2.cell x3;replace x4:=k2.cell x4;replace y0:=k2.cell y0;replace y1:=k2.cell y1;replace y2:=k2.cell y2;replace k1:=k1.trans k2;clear k2 hxs;cases nb with
 |false=>
  go_wp2_with fail;rw[HPO.out];exact⟨rfl,k1⟩
 |true=>
  go_wp2_with fail;refine(HN wa k1).mono ?_;rintro e wb ⟨rfl,k2⟩;replace x0:=k2.cell x0;replace x1:=k2.cell x1;replace x2:=k2.cell x2;replace x3:=k2.cell x3;replace x4:=k2.cell x4;replace y0:=k2.cell y0;replace y1:=k2.cell y1;replace y2:=k2.cell y2;replace k1:=k1.trans k2;clear k2;cases tn with
  |true=>
   go_wp2_with fail;rw[HPO.out];exact⟨rfl,k1⟩
  |false=>
   go_wp2_with fail;have hT:∀W,New wb W->Calls Tryz.prog 137 #[(.agg #[.string ay,.slice gaa ak.length gac,.slice gea ah.length gec,.slice (some ⟨b,off,none⟩) aC.length gic,.slice goa au.length goc]),I ah.length,I i,I x.ac,I x.po] W fun en w'=>en= .returned (.bool tkA)∧New wb w':=fun W k=>(HTA W (k1.trans k)).mono fun _ _ h=>⟨h.1,k.trans h.2⟩
   have hE:∀W,New wb W->Calls Tryz.prog 135 #[(.agg #[.string ay,.slice gaa ak.length gac,.slice gea ah.length gec,.slice (some ⟨b,off,none⟩) aC.length gic,.slice goa au.length goc]),I x.ac,I x.po,.bool false,.bool tkA] W fun en w'=>en= .returned (I EA)∧New wb w':=fun W k=>(HEA W (k1.trans k)).mono fun _ _ h=>⟨h.1,k.trans h.2⟩
   go_region_held3 (fun w'=>w'.cell? ⟨w.heap.size,0,none⟩=some (.string ay)∧w'.cell? ⟨w.heap.size,1,none⟩=some (.slice gaa ak.length gac)∧w'.cell? ⟨w.heap.size,2,none⟩=some (.slice gea ah.length gec)∧w'.cell? ⟨w.heap.size,3,none⟩=some (.slice (some ⟨b,off,none⟩) aC.length gic)∧w'.cell? ⟨w.heap.size,4,none⟩=some (.slice goa au.length goc)∧w'.cell? ⟨w.heap.size+1,0,none⟩=some (.string x.name)∧w'.cell? ⟨w.heap.size+1,1,none⟩=some (I x.ac)∧w'.cell? ⟨w.heap.size+1,2,none⟩=some (I x.po)∧New wb w')
    ((refine⟨New.cell (w:=wb) ?_ x0,New.cell (w:=wb) ?_ x1,New.cell (w:=wb) ?_ x2,New.cell (w:=wb) ?_ x3,New.cell (w:=wb) ?_ x4,New.cell (w:=wb) ?_ y0,New.cell (w:=wb) ?_ y1,New.cell (w:=wb) ?_ y2,?_⟩<;>(repeat(first|exact New.refl wb|exact n3|exact n2|refine New.drew ?_))))
    ((first|(go_at_call 137;refine(hT _ ((New.refl wb).drew)).mono ?_;rintro e w2 ⟨rfl,n2⟩)|(go_at_call 135;(first|refine(hE _ n2).mono ?_|refine(hE _ n2.drew).mono ?_);rintro e w3 ⟨rfl,n3⟩)))
   rename_i hSX;clear hT hE x0 x1 x2 x3 x4 y0 y1 y2;obtain⟨x0,x1,x2,x3,x4,y0,y1,y2,hNX⟩:=hSX;replace k1:=k1.trans hNX;simp only[Exit.then];go_wp2_with fail;rw[HPO.out];exact⟨rfl,k1⟩
theorem zt (w:World) (g:Gr) (i:Nat) (hg:GrAt w g) (hl:GLen g) (hi:i<g.outs.length):
  Calls Tryz.prog 106 #[g.v,I i] w fun en w'=>en= .returned (.tuple #[I (fu g i g.outs[i]).1,I (fu g i g.outs[i]).2])∧New w w':=by
 have hla:=hl.a;have hle:=hl.e;have hli:=hl.i;have hlo:=hl.o;have hxs:=hl.ox _ (List.getElem_mem hi);obtain⟨b,off,hab,q0,q1,q2⟩:=ej hg.so hi;have hi0:(i:Int)<(g.outs.length:Int):=by omega
 have hbw:b<w.heap.size:=World.block_lt_of_cell? w _ q0;generalize g.outs[i]=x at q0 q1 q2 hxs ⊢;have HM:∀W,Calls Tryz.prog 80 #[.string x.name] W fun e w'=>e= .returned (.bool (aQ x.name))∧New W w':=fun W=>kI W _ hxs
 have HN:∀W (k:New w W),Calls Tryz.prog 133 #[g.v,I g.acts.length,I g.ins.length,I i,.string x.name] W fun en w'=>en= .returned (.bool ((aw g g.acts.length g.ins.length i).any (fun t=>decide (aB t=aB x.name))))∧New W w':=
  fun W k=>by simpa using lA W g g.acts.length g.ins.length i x.name (hg.new k) hl (by omega) (by omega) (by omega)
 have HTA:∀W (k:New w W),Calls Tryz.prog 136 #[g.v,I g.edges.length,I i,I x.ac,I x.po] W fun en w'=>en= .returned (.bool (aZ g g.edges.length i x.ac x.po))∧New W w':=
  fun W k=>lB W g g.edges.length i x.ac x.po (hg.new k) hl (by omega) (by omega)
 have HEA:∀W (k:New w W),Calls Tryz.prog 135 #[g.v,I x.ac,I x.po,.bool true,.bool (aZ g g.edges.length i x.ac x.po)] W fun en w'=>en= .returned (I (dp g cr (aZ g g.edges.length i x.ac x.po) x.ac x.po))∧New W w':=
  fun W k=>me W g x.ac x.po true (aZ g g.edges.length i x.ac x.po) (hg.new k) hl
 have hEE:fu g i x=if aQ x.name=false then(82,0) else if(aw g g.acts.length g.ins.length i).any (fun t=>decide (aB t=aB x.name)) then(83,0) else(dp g cr (aZ g g.edges.length i x.ac x.po) x.ac x.po,1):=by
  unfold fu cP;by_cases h1:aQ x.name=false
  ·simp[h1]
  ·by_cases h2:(aw g g.acts.length g.ins.length i).any (fun t=>decide (aB t=aB x.name))=true
   ·simp only[h1,h2];simp
   ·simp only[h1,h2];simp
 rw[hEE];clear hEE;generalize dp g cr (aZ g g.edges.length i x.ac x.po) x.ac x.po=EA at HEA ⊢;generalize aZ g g.edges.length i x.ac x.po=tkA at HTA HEA;generalize(aw g g.acts.length g.ins.length i).any (fun t=>decide (aB t=aB x.name))=tn at HN ⊢;generalize aQ x.name=nb at HM ⊢;have HC:=HM;clear hg hl;obtain⟨ay,gaa,gac,ak,gea,gec,ah,gia,gic,aC,goa,goc,au⟩:=g;simp only at HTA HEA HN hab hi hi0 hla hle hli hlo;simp only[Gr.v,Gr.cs] at HTA HEA HN ⊢;subst hab;clear HC;obtain⟨post,cu⟩:∃post:Ending->World->Prop,post=fun en w'=>en= .returned (.tuple #[I (if nb=false then((82:Int),(0:Int)) else if tn=true then(83,0) else(EA,1)).1,I (if nb=false then((82:Int),(0:Int)) else if tn=true then(83,0) else(EA,1)).2])∧New w w':=⟨_,rfl⟩
 rw[<-cu];have HPO:=Lib.hid cu;clear cu;go_enter Tryz.func106,Tryz.ntmps106;go_wp2_with fail;have hs0:(w.alloc (.cells #[.string ay,.slice gaa ak.length gac,.slice gea ah.length gec,.slice gia aC.length gic,.slice (some ⟨b,off,none⟩) au.length goc] 26)).heap.size=w.heap.size+1:=aG _ _;have hN0:New w (w.alloc (.cells #[.string ay,.slice gaa ak.length gac,.slice gea ah.length gec,.slice gia aC.length gic,.slice (some ⟨b,off,none⟩) au.length goc] 26)):=(New.refl w).alloc _;have hbx:(w.alloc (.cells #[.string ay,.slice gaa ak.length gac,.slice gea ah.length gec,.slice gia aC.length gic,.slice (some ⟨b,off,none⟩) au.length goc] 26)).heap[w.heap.size]? =some (.cells #[.string ay,.slice gaa ak.length gac,.slice gea ah.length gec,.slice gia aC.length gic,.slice (some ⟨b,off,none⟩) au.length goc] 26 (0,0)):=heap_alloc_new w _;generalize(w.alloc (.cells #[.string ay,.slice gaa ak.length gac,.slice gea ah.length gec,.slice gia aC.length gic,.slice (some ⟨b,off,none⟩) au.length goc] 26))=w0 at hN0 hbx hs0 ⊢;have x0:w0.cell? ⟨w.heap.size,0,none⟩=some (.string ay):=by rw[cell_of_block hbx 0];simp
 have x1:w0.cell? ⟨w.heap.size,1,none⟩=some (.slice gaa ak.length gac):=by rw[cell_of_block hbx 1];simp
 have x2:w0.cell? ⟨w.heap.size,2,none⟩=some (.slice gea ah.length gec):=by rw[cell_of_block hbx 2];simp
 have x3:w0.cell? ⟨w.heap.size,3,none⟩=some (.slice gia aC.length gic):=by rw[cell_of_block hbx 3];simp
 have x4:w0.cell? ⟨w.heap.size,4,none⟩=some (.slice (some ⟨b,off,none⟩) au.length goc):=by rw[cell_of_block hbx 4];simp
 clear hbx;have hN1:New w0 (w0.alloc (.cells #[.string x.name,I x.ac,I x.po] 82)):=(New.refl w0).alloc _;have hbx:(w0.alloc (.cells #[.string x.name,I x.ac,I x.po] 82)).heap[w0.heap.size]? =some (.cells #[.string x.name,I x.ac,I x.po] 82 (0,0)):=heap_alloc_new w0 _;generalize(w0.alloc (.cells #[.string x.name,I x.ac,I x.po] 82))=w1 at hN1 hbx ⊢;have y0:w1.cell? ⟨w0.heap.size,0,none⟩=some (.string x.name):=by rw[cell_of_block hbx 0];simp
 have y1:w1.cell? ⟨w0.heap.size,1,none⟩=some (I x.ac):=by rw[cell_of_block hbx 1];simp
 have y2:w1.cell? ⟨w0.heap.size,2,none⟩=some (I x.po):=by rw[cell_of_block hbx 2];simp
 rw[hs0] at y0 y1 y2;replace x0:=hN1.cell x0;replace x1:=hN1.cell x1;replace x2:=hN1.cell x2;replace x3:=hN1.cell x3;replace x4:=hN1.cell x4;have k1:=hN0.trans hN1;clear hN0 hN1 hbx hs0;clear q0 q1 q2;refine(HM w1).mono ?_;rintro e wa ⟨rfl,k2⟩;replace x0:=k2.cell x0;replace x1:=k2.cell x1;replace x2:=k2.cell x2;replace x3:=k2.cell x3;replace x4:=k2.cell x4;replace y0:=k2.cell y0;replace y1:=k2.cell y1;replace y2:=k2.cell y2;replace k1:=k1.trans k2;clear k2 hxs;cases nb with
 |false=>
  go_wp2_with fail;rw[HPO.out];exact⟨rfl,k1⟩
 |true=>
  go_wp2_with fail;refine(HN wa k1).mono ?_;rintro e wb ⟨rfl,k2⟩;replace x0:=k2.cell x0;replace x1:=k2.cell x1;replace x2:=k2.cell x2;replace x3:=k2.cell x3;replace x4:=k2.cell x4;replace y0:=k2.cell y0;replace y1:=k2.cell y1;replace y2:=k2.cell y2;replace k1:=k1.trans k2;clear k2;cases tn with
  |true=>
   go_wp2_with fail;rw[HPO.out];exact⟨rfl,k1⟩
  |false=>
   go_wp2_with fail;have hT:∀W,New wb W->Calls Tryz.prog 136 #[(.agg #[.string ay,.slice gaa ak.length gac,.slice gea ah.length gec,.slice gia aC.length gic,.slice (some ⟨b,off,none⟩) au.length goc]),I ah.length,I i,I x.ac,I x.po] W fun en w'=>en= .returned (.bool tkA)∧New wb w':=fun W k=>(HTA W (k1.trans k)).mono fun _ _ h=>⟨h.1,k.trans h.2⟩
   have hE:∀W,New wb W->Calls Tryz.prog 135 #[(.agg #[.string ay,.slice gaa ak.length gac,.slice gea ah.length gec,.slice gia aC.length gic,.slice (some ⟨b,off,none⟩) au.length goc]),I x.ac,I x.po,.bool true,.bool tkA] W fun en w'=>en= .returned (I EA)∧New wb w':=fun W k=>(HEA W (k1.trans k)).mono fun _ _ h=>⟨h.1,k.trans h.2⟩
   go_region_held3 (fun w'=>w'.cell? ⟨w.heap.size,0,none⟩=some (.string ay)∧w'.cell? ⟨w.heap.size,1,none⟩=some (.slice gaa ak.length gac)∧w'.cell? ⟨w.heap.size,2,none⟩=some (.slice gea ah.length gec)∧w'.cell? ⟨w.heap.size,3,none⟩=some (.slice gia aC.length gic)∧w'.cell? ⟨w.heap.size,4,none⟩=some (.slice (some ⟨b,off,none⟩) au.length goc)∧w'.cell? ⟨w.heap.size+1,0,none⟩=some (.string x.name)∧w'.cell? ⟨w.heap.size+1,1,none⟩=some (I x.ac)∧w'.cell? ⟨w.heap.size+1,2,none⟩=some (I x.po)∧New wb w')
    ((refine⟨New.cell (w:=wb) ?_ x0,New.cell (w:=wb) ?_ x1,New.cell (w:=wb) ?_ x2,New.cell (w:=wb) ?_ x3,New.cell (w:=wb) ?_ x4,New.cell (w:=wb) ?_ y0,New.cell (w:=wb) ?_ y1,New.cell (w:=wb) ?_ y2,?_⟩<;>(repeat(first|exact New.refl wb|exact n3|exact n2|refine New.drew ?_))))
    ((first|(go_at_call 136;refine(hT _ ((New.refl wb).drew)).mono ?_;rintro e w2 ⟨rfl,n2⟩)|(go_at_call 135;(first|refine(hE _ n2).mono ?_|refine(hE _ n2.drew).mono ?_);rintro e w3 ⟨rfl,n3⟩)))
   rename_i hSX;clear hT hE x0 x1 x2 x3 x4 y0 y1 y2;obtain⟨x0,x1,x2,x3,x4,y0,y1,y2,hNX⟩:=hSX;replace k1:=k1.trans hNX;simp only[Exit.then];go_wp2_with fail;rw[HPO.out];exact⟨rfl,k1⟩
def iv {α:Type} (E:Nat->α->Int×Int) (l:List α) (mk:Nat->Int×Int->Int×Int×Int×Int) (rest:Int×Int×Int×Int):Int×Int×Int×Int:=
 match aD E 0 l with
 |some (i,ed)=>mk i ed
 |none=>rest
theorem jl {α:Type} {E:Nat->α->Int×Int} {l:List α} {mk rest} {k:Nat} (hk:k<l.length) (hb:∀j (hj:j<l.length),j<k->(E j l[j]).1=0) (hh:(E k l[k]).1≠0):iv E l mk rest=mk k (E k l[k]):=by
 unfold iv;have h:=oq (E:=E) l 0 k hk (fun j hj hjk=>by simpa using hb j hj hjk) (by simpa using hh);simp only[Nat.zero_add] at h;rw[h]
theorem jk {α:Type} {E:Nat->α->Int×Int} {l:List α} {mk rest} (hb:∀j (hj:j<l.length),j<l.length->(E j l[j]).1=0):iv E l mk rest=rest:=by
 unfold iv;rw[eI l 0 (fun j hj=>by simpa using hb j hj hj)]
theorem xS (g:Gr):bz g=
  if aQ g.name=false then(82,0,0,0)
  else if g.acts.length=0 then(80,0,0,0)
  else if(iG g).1≠0 then iG g
  else iv (fo g) g.acts (fun i ed=>(ed.1,1,i,0)) (iv (dd g) g.edges (fun i ed=>(ed.1,2,i,ed.2)) (iv (inE g) g.ins (fun i ed=>(ed.1,3,i,ed.2)) (iv (fu g) g.outs (fun i ed=>(ed.1,4,i,ed.2))
   (iv (fun i x=>(if e8 g i x then 87 else 0,0)) g.acts (fun i ed=>(ed.1,1,i,0)) (0,0,0,0))))):=by
 unfold bz iG;by_cases h0:aQ g.name=false
 ·simp[h0]
 by_cases h1:g.acts.length=0
 ·simp[h0,h1]
 rw[if_neg h0,if_neg h1,if_neg h0,if_neg h1];by_cases h2:32<g.acts.length
 ·simp[h2]
 by_cases h3:96<g.edges.length
 ·simp[h2,h3]
 by_cases h4:16<g.ins.length
 ·simp[h2,h3,h4]
 by_cases h5:16<g.outs.length
 ·simp[h2,h3,h4,h5]
 simp only[h2,h3,h4,h5,if_false,ne_eq,not_true_eq_false];unfold iv;cases aD (fo g) 0 g.acts with
 |some r=>rfl
 |none=>
  cases aD (dd g) 0 g.edges with
  |some r=>rfl
  |none=>
   cases aD (inE g) 0 g.ins with
   |some r=>rfl
   |none=>
    cases aD (fu g) 0 g.outs with
    |some r=>rfl
    |none=>cases aD (fun i x=>(if e8 g i x then 87 else 0,0)) 0 g.acts with
     |some r=>rfl
     |none=>rfl
theorem qe {p:Nat->Bool} {n:Nat} (h:∀j,j<n->p j=true):(List.range n).any (fun k=> !p k)=false:=by
 rw[List.any_eq_false];intro j hj;simp[h j (List.mem_range.1 hj)]
theorem qf {p:Nat->Bool} {n k:Nat} (hk:k<n) (h:p k=false):(List.range n).any (fun k=> !p k)=true:=
 List.any_eq_true.2 ⟨k,List.mem_range.2 hk,by simp[h]⟩
theorem je (tag:Int) (ps:List Int):(bs tag ps).2.1.length<=16∧(bs tag ps).2.2.length<=16:=by
 unfold bs;split
 ·rename_i ht;split
  ·rename_i hg;rcases gp ht.1 ht.2 with rfl|rfl|rfl|rfl|rfl|rfl|rfl|rfl|rfl|rfl|rfl
   ·simp[gC]
   ·simp[gC]
   ·simp[gC]
   ·obtain⟨n,m,rfl,h1,h2,h3,h4,h5⟩:=gW (ps:=ps) (by simpa[bB] using hg);simp[gC];omega
   ·obtain⟨n,m,rfl,h1,h2,h3,h4,h5⟩:=gW (ps:=ps) (by simpa[bB] using hg);simp[gC];omega
   ·obtain⟨n,rfl,h1,h2⟩:=dn (ps:=ps) (k:=16) (by simpa[bB] using hg);simp[gC];omega
   ·simp[gC]
   ·simp[gC]
   ·obtain⟨n,rfl,h1,h2⟩:=dn (ps:=ps) (k:=16) (by simpa[bB] using hg);simp[gC];omega
   ·simp[gC]
   ·simp[gC]
  ·simp
 ·simp
theorem ek {w:World} {B:Nat} {a b c d:Value} (h:w.heap[B]? =some (.cells #[a,b,c,d] 122 (0,0))):
  (w.cell? ⟨B,0,none⟩=some a∧w.cell? ⟨B,1,none⟩=some b∧w.cell? ⟨B,2,none⟩=some c∧w.cell? ⟨B,3,none⟩=some d)∧
  (w.frozen? ⟨B,0,none⟩=false∧w.frozen? ⟨B,1,none⟩=false∧w.frozen? ⟨B,2,none⟩=false∧w.frozen? ⟨B,3,none⟩=false)∧B<w.heap.size:=by
 refine⟨⟨?_,?_,?_,?_⟩,⟨unfrozen_of_block h 0,unfrozen_of_block h 1,unfrozen_of_block h 2,unfrozen_of_block h 3⟩,(Array.getElem?_eq_some_iff.1 h).1⟩;all_goals rw[cell_of_block h];rfl
theorem wN (w:World) (g:Gr) (i:Nat) (hg:GrAt w g) (hl:GLen g) (hi:i<g.acts.length):
  Calls Tryz.prog 107 #[g.v,I i] w fun en w'=>en= .returned (.bool (e8 g i g.acts[i]))∧New w w':=by
 have hla:=hl.a;have hle:=hl.e;have hli:=hl.i;have hlo:=hl.o;have HR:∀W (k:New w W),Calls Tryz.prog 138 #[g.v,I i] W fun en w'=>en= .returned (.tuple #[I (nIn g.acts[i]),I (cr g.acts[i])])∧New W w':=fun W k=>oZ W g i (hg.new k) hl hi
 have HTI:∀W (k:New w W) (p:Nat),Calls Tryz.prog 137 #[g.v,I g.edges.length,I g.ins.length,I i,I p] W fun en w'=>en= .returned (.bool (bZ g g.edges.length g.ins.length i p))∧New W w':=fun W k p=>mJ W g _ _ i p (hg.new k) hl (by omega) (by omega)
 have HTO:∀W (k:New w W) (p:Nat),Calls Tryz.prog 136 #[g.v,I g.edges.length,I g.outs.length,I i,I p] W fun en w'=>en= .returned (.bool (aZ g g.edges.length g.outs.length i p))∧New W w':=fun W k p=>lB W g _ _ i p (hg.new k) hl (by omega) (by omega)
 unfold e8;have hlI:nIn g.acts[i]<=9223372036854775807:=by have:=(je g.acts[i].tag g.acts[i].xs).1;unfold nIn;omega
 have hlO:cr g.acts[i]<=9223372036854775807:=by have:=(je g.acts[i].tag g.acts[i].xs).2;unfold cr;omega
 generalize nIn g.acts[i]=ni at HR hlI ⊢;generalize cr g.acts[i]=no at HR hlO ⊢;obtain⟨T1,hT1⟩:∃T1:Nat->Bool,(fun(p:Nat)=>bZ g g.edges.length g.ins.length i (p:Int))=T1:=⟨_,rfl⟩
 obtain⟨T2,hT2⟩:∃T2:Nat->Bool,(fun(p:Nat)=>aZ g g.edges.length g.outs.length i (p:Int))=T2:=⟨_,rfl⟩
 have e1:∀p:Nat,bZ g g.edges.length g.ins.length i (p:Int)=T1 p:=fun p=>congrFun hT1 p
 have e2:∀p:Nat,aZ g g.edges.length g.outs.length i (p:Int)=T2 p:=fun p=>congrFun hT2 p
 simp only[e1,e2] at HTI HTO ⊢;clear e1 e2 hT1 hT2 hl;obtain⟨A,hA⟩:∃A,((List.range ni).any (fun k=> !T1 k)||(List.range no).any (fun k=> !T2 k))=A:=⟨_,rfl⟩
 rw[hA];have HA:=Lib.hid hA;clear hA hg;obtain⟨ay,gaa,gac,ak,gea,gec,ah,gia,gic,aC,goa,goc,au⟩:=g;simp only[Gr.v,Gr.cs] at HR HTI HTO hi hla hle hli hlo ⊢;go_enter Tryz.func107,Tryz.ntmps107;go_wp2_with fail;have hN0:New w (w.alloc (.cells #[.string ay,.slice gaa ak.length gac,.slice gea ah.length gec,.slice gia aC.length gic,.slice goa au.length goc] 26)):=(New.refl w).alloc _;have hbx:(w.alloc (.cells #[.string ay,.slice gaa ak.length gac,.slice gea ah.length gec,.slice gia aC.length gic,.slice goa au.length goc] 26)).heap[w.heap.size]? =some (.cells #[.string ay,.slice gaa ak.length gac,.slice gea ah.length gec,.slice gia aC.length gic,.slice goa au.length goc] 26 (0,0)):=heap_alloc_new w _;have hs0:(w.alloc (.cells #[.string ay,.slice gaa ak.length gac,.slice gea ah.length gec,.slice gia aC.length gic,.slice goa au.length goc] 26)).heap.size=w.heap.size+1:=aG _ _;generalize(w.alloc (.cells #[.string ay,.slice gaa ak.length gac,.slice gea ah.length gec,.slice gia aC.length gic,.slice goa au.length goc] 26))=w0 at hN0 hbx hs0 ⊢;have x0:w0.cell? ⟨w.heap.size,0,none⟩=some (.string ay):=by rw[cell_of_block hbx 0];simp
 have x1:w0.cell? ⟨w.heap.size,1,none⟩=some (.slice gaa ak.length gac):=by rw[cell_of_block hbx 1];simp
 have x2:w0.cell? ⟨w.heap.size,2,none⟩=some (.slice gea ah.length gec):=by rw[cell_of_block hbx 2];simp
 have x3:w0.cell? ⟨w.heap.size,3,none⟩=some (.slice gia aC.length gic):=by rw[cell_of_block hbx 3];simp
 have x4:w0.cell? ⟨w.heap.size,4,none⟩=some (.slice goa au.length goc):=by rw[cell_of_block hbx 4];simp
 clear hbx;refine(HR w0 hN0).mono ?_;rintro e w1 ⟨rfl,k2⟩;replace x0:=k2.cell x0;replace x1:=k2.cell x1;replace x2:=k2.cell x2;replace x3:=k2.cell x3;replace x4:=k2.cell x4;replace hN0:=hN0.trans k2;clear k2 hs0 HR;go_wp2_with fail;go_loopw [7] (fun i wr=>∃k:Nat,k<=ni∧i= .int .i64 k∧Hid (∀j,j<k->T1 j=true)∧New w1 wr) (fun i _=>ni-(intOf i).toNat)
 case atStart=>exact⟨0,by omega,rfl,Lib.hid (fun j hj=>by omega),New.refl _⟩
 case round=>
  obtain⟨k,hk,rfl,HZ,hN⟩:=hrel;have x0r:=hN.cell x0;have x1r:=hN.cell x1;have x2r:=hN.cell x2;have x3r:=hN.cell x3;have x4r:=hN.cell x4;by_cases hk1:k<ni
  ·have hk3:(k:Int)<(ni:Int):=by omega
   have hk5:decide (k<ni)=true:=decide_eq_true hk1;have hc:=HTI wr (hN0.trans hN) k;cases ht:T1 k with
   |true=>
    rw[ht] at hc;have HF:Hid (∀j,j<k+1->T1 j=true):=Lib.hid (fun j hj=>by
     by_cases hjk:j=k
     ·rw[hjk];exact ht
     ·exact HZ.out j (by omega))
    clear ht HZ;go_wp2_with fail;refine hc.mono ?_;rintro e w3 ⟨rfl,k3⟩;go_wp2_with fail;go_roundw
    case rel=>exact⟨k+1,by omega,by go_num,HF,hN.trans k3⟩
    case measure=>simp[intOf];omega
   |false=>
    rw[ht] at hc;have HT:Hid (A=true):=Lib.hid (by rw[<-HA.out];simp only[Bool.or_eq_true];exact Or.inl (qf hk1 ht));clear ht HZ;go_wp2_with fail;refine hc.mono ?_;rintro e w3 ⟨rfl,k3⟩;go_wp2_with fail;go_ret
    exact⟨by rw[HT.out];rfl,(hN0.trans hN).trans k3⟩
  ·have hke:k=ni:=by omega
   have hd9:decide (k<ni)=false:=decide_eq_false hk1;rw[hke] at HZ;have HZ1:=HZ;clear HZ hke hk hk1;replace x0:=x0r;replace x1:=x1r;replace x2:=x2r;replace x3:=x3r;replace x4:=x4r;replace hN0:=hN0.trans hN;clear hN x0r x1r x2r x3r x4r;go_wp2_with fail;obtain⟨wo,rfl⟩:∃wo,wo=wr:=⟨_,rfl⟩
   go_loopw [8] (fun i wr=>∃k:Nat,k<=no∧i= .int .i64 k∧Hid (∀j,j<k->T2 j=true)∧New wo wr) (fun i _=>no-(intOf i).toNat)
   case atStart=>exact⟨0,by omega,rfl,Lib.hid (fun j hj=>by omega),New.refl _⟩
   case round=>
    obtain⟨k,hk,rfl,HZ,hN⟩:=hrel;have x0r:=hN.cell x0;have x1r:=hN.cell x1;have x2r:=hN.cell x2;have x3r:=hN.cell x3;have x4r:=hN.cell x4;by_cases hk1:k<no
    ·have hk3:(k:Int)<(no:Int):=by omega
     have hk5:decide (k<no)=true:=decide_eq_true hk1;have hc:=HTO wr (hN0.trans hN) k;cases ht:T2 k with
     |true=>
      rw[ht] at hc;have HF:Hid (∀j,j<k+1->T2 j=true):=Lib.hid (fun j hj=>by
       by_cases hjk:j=k
       ·rw[hjk];exact ht
       ·exact HZ.out j (by omega))
      clear ht HZ;go_wp2_with fail;refine hc.mono ?_;rintro e w3 ⟨rfl,k3⟩;go_wp2_with fail;go_roundw
      case rel=>exact⟨k+1,by omega,by go_num,HF,hN.trans k3⟩
      case measure=>simp[intOf];omega
     |false=>
      rw[ht] at hc;have HT:Hid (A=true):=Lib.hid (by rw[<-HA.out];simp only[Bool.or_eq_true];exact Or.inr (qf hk1 ht));clear ht HZ;go_wp2_with fail;refine hc.mono ?_;rintro e w3 ⟨rfl,k3⟩;go_wp2_with fail;go_ret
      exact⟨by rw[HT.out];rfl,(hN0.trans hN).trans k3⟩
    ·have hke:k=no:=by omega
     have hd9:decide (k<no)=false:=decide_eq_false hk1;rw[hke] at HZ;clear hke hk hk1;go_wp2_with fail;go_ret
     exact⟨by rw[<-HA.out,qe HZ1.out,qe HZ.out];rfl,hN0.trans hN⟩
theorem wK (w:World) (g:Gr) (hg:GrAt w g) (hl:GLen g):
  Calls Tryz.prog 64 #[g.v] w fun en w'=>en= .returned (xU (bz g))∧New w w':=by
 have hla:=hl.a;have hle:=hl.e;have hli:=hl.i;have hlo:=hl.o;have HM:∀W,Calls Tryz.prog 80 #[.string g.name] W fun e w'=>e= .returned (.bool (aQ g.name))∧New W w':=fun W=>kI W _ hl.n
 have HY:∀W,Calls Tryz.prog 102 #[g.v] W fun e w'=>e= .returned (xU (iG g))∧New W w':=fun W=>wM W g hl
 have HA:∀W (k:Nat) (kk:New w W) (hk:k<g.acts.length),Calls Tryz.prog 103 #[g.v,I k] W fun e w'=>e= .returned (I (fo g k g.acts[k]).1)∧New W w':=fun W k kk hk=>ua W g k (hg.new kk) hl hk
 have HE:∀W (k:Nat) (kk:New w W) (hk:k<g.edges.length),Calls Tryz.prog 104 #[g.v,I k] W fun e w'=>e= .returned (.tuple #[I (dd g k g.edges[k]).1,I (dd g k g.edges[k]).2])∧New W w':=fun W k kk hk=>wJ W g k (hg.new kk) hl hk
 have HI:∀W (k:Nat) (kk:New w W) (hk:k<g.ins.length),Calls Tryz.prog 105 #[g.v,I k] W fun e w'=>e= .returned (.tuple #[I (inE g k g.ins[k]).1,I (inE g k g.ins[k]).2])∧New W w':=fun W k kk hk=>AE W g k (hg.new kk) hl hk
 have HO:∀W (k:Nat) (kk:New w W) (hk:k<g.outs.length),Calls Tryz.prog 106 #[g.v,I k] W fun e w'=>e= .returned (.tuple #[I (fu g k g.outs[k]).1,I (fu g k g.outs[k]).2])∧New W w':=fun W k kk hk=>zt W g k (hg.new kk) hl hk
 have HP:∀W (k:Nat) (kk:New w W) (hk:k<g.acts.length),Calls Tryz.prog 107 #[g.v,I k] W fun e w'=>e= .returned (.bool (e8 g k g.acts[k]))∧New W w':=fun W k kk hk=>wN W g k (hg.new kk) hl hk
 rw[xS];generalize aQ g.name=nb at HM ⊢;generalize iG g=mg at HY ⊢;generalize fo g=EA at HA ⊢;generalize dd g=EE at HE ⊢;generalize inE g=EI at HI ⊢;generalize fu g=EO at HO ⊢;generalize e8 g=EP at HP ⊢;clear hg hl;obtain⟨ay,gaa,gac,ak,gea,gec,ah,gia,gic,aC,goa,goc,au⟩:=g;simp only[Gr.v,Gr.cs] at hla hle hli hlo HM HY HA HE HI HO HP ⊢;obtain⟨m0,m1,m2,m3⟩:=mg;simp only[xU] at HY;cases nb with
 |false=>
  rw[if_pos rfl];go_enter Tryz.func64,Tryz.ntmps64;go_wp2_with fail;have hN0:New w (w.alloc (.cells #[.string ay,.slice gaa ak.length gac,.slice gea ah.length gec,.slice gia aC.length gic,.slice goa au.length goc] 26)):=(New.refl w).alloc _;have hbx:(w.alloc (.cells #[.string ay,.slice gaa ak.length gac,.slice gea ah.length gec,.slice gia aC.length gic,.slice goa au.length goc] 26)).heap[w.heap.size]? =some (.cells #[.string ay,.slice gaa ak.length gac,.slice gea ah.length gec,.slice gia aC.length gic,.slice goa au.length goc] 26 (0,0)):=heap_alloc_new w _;have hs0:(w.alloc (.cells #[.string ay,.slice gaa ak.length gac,.slice gea ah.length gec,.slice gia aC.length gic,.slice goa au.length goc] 26)).heap.size=w.heap.size+1:=aG _ _;generalize(w.alloc (.cells #[.string ay,.slice gaa ak.length gac,.slice gea ah.length gec,.slice gia aC.length gic,.slice goa au.length goc] 26))=w0 at hN0 hbx hs0 ⊢;have x0:w0.cell? ⟨w.heap.size,0,none⟩=some (.string ay):=by rw[cell_of_block hbx 0];simp
  have x1:w0.cell? ⟨w.heap.size,1,none⟩=some (.slice gaa ak.length gac):=by rw[cell_of_block hbx 1];simp
  have x2:w0.cell? ⟨w.heap.size,2,none⟩=some (.slice gea ah.length gec):=by rw[cell_of_block hbx 2];simp
  have x3:w0.cell? ⟨w.heap.size,3,none⟩=some (.slice gia aC.length gic):=by rw[cell_of_block hbx 3];simp
  have x4:w0.cell? ⟨w.heap.size,4,none⟩=some (.slice goa au.length goc):=by rw[cell_of_block hbx 4];simp
  clear hbx;have hN1:New w0 (w0.alloc (.cells #[I 0,.int .u8 0,I 0,I 0] 122)):=(New.refl w0).alloc _;have hbx:(w0.alloc (.cells #[I 0,.int .u8 0,I 0,I 0] 122)).heap[w0.heap.size]? =some (.cells #[I 0,.int .u8 0,I 0,I 0] 122 (0,0)):=heap_alloc_new w0 _;have hs1:(w0.alloc (.cells #[I 0,.int .u8 0,I 0,I 0] 122)).heap.size=w.heap.size+1+1:=by rw[aG,hs0]
  generalize(w0.alloc (.cells #[I 0,.int .u8 0,I 0,I 0] 122))=w1 at hN1 hbx hs1 ⊢;rw[hs0] at hbx;have HB:=Lib.hid hbx;replace x0:=hN1.cell x0;replace x1:=hN1.cell x1;replace x2:=hN1.cell x2;replace x3:=hN1.cell x3;replace x4:=hN1.cell x4;have k1:=hN0.trans hN1;clear hN0 hN1 hbx hs0;refine(HM w1).mono ?_;rintro e wa ⟨rfl,k2⟩;replace x0:=k2.cell x0;replace x1:=k2.cell x1;replace x2:=k2.cell x2;replace x3:=k2.cell x3;replace x4:=k2.cell x4;replace HB:=Lib.hid (Keeps.heap k2 HB.out (fun h=>h));replace k1:=k1.trans k2;clear k2;obtain⟨⟨r0,r1,r2,r3⟩,⟨f0,f1,f2,f3⟩,hBB⟩:=ek HB.out;go_wp2_with fail;exact bodyPost_ret (v:= .agg #[I 82,.int .u8 0,I 0,I 0]) (by simp[results,Tryz.results64,go_sem,r0,r1,r2,r3,f0,f1,f2,f3,hBB]) rfl ⟨rfl,((((k1).setCell (by simp) _).setCell (by simp) _).setCell (by simp) _).setCell (by simp) _⟩
 |true=>
  rw[if_neg (by simp)];by_cases h0:ak.length=0
  ·rw[if_pos h0];have d0:((ak.length:Int)==0)=true:=by simp[h0]
   have d0':decide ((ak.length:Int)=0)=true:=by simp[h0]
   clear h0;go_enter Tryz.func64,Tryz.ntmps64;go_wp2_with fail;have hN0:New w (w.alloc (.cells #[.string ay,.slice gaa ak.length gac,.slice gea ah.length gec,.slice gia aC.length gic,.slice goa au.length goc] 26)):=(New.refl w).alloc _;have hbx:(w.alloc (.cells #[.string ay,.slice gaa ak.length gac,.slice gea ah.length gec,.slice gia aC.length gic,.slice goa au.length goc] 26)).heap[w.heap.size]? =some (.cells #[.string ay,.slice gaa ak.length gac,.slice gea ah.length gec,.slice gia aC.length gic,.slice goa au.length goc] 26 (0,0)):=heap_alloc_new w _;have hs0:(w.alloc (.cells #[.string ay,.slice gaa ak.length gac,.slice gea ah.length gec,.slice gia aC.length gic,.slice goa au.length goc] 26)).heap.size=w.heap.size+1:=aG _ _;generalize(w.alloc (.cells #[.string ay,.slice gaa ak.length gac,.slice gea ah.length gec,.slice gia aC.length gic,.slice goa au.length goc] 26))=w0 at hN0 hbx hs0 ⊢;have x0:w0.cell? ⟨w.heap.size,0,none⟩=some (.string ay):=by rw[cell_of_block hbx 0];simp
   have x1:w0.cell? ⟨w.heap.size,1,none⟩=some (.slice gaa ak.length gac):=by rw[cell_of_block hbx 1];simp
   have x2:w0.cell? ⟨w.heap.size,2,none⟩=some (.slice gea ah.length gec):=by rw[cell_of_block hbx 2];simp
   have x3:w0.cell? ⟨w.heap.size,3,none⟩=some (.slice gia aC.length gic):=by rw[cell_of_block hbx 3];simp
   have x4:w0.cell? ⟨w.heap.size,4,none⟩=some (.slice goa au.length goc):=by rw[cell_of_block hbx 4];simp
   clear hbx;have hN1:New w0 (w0.alloc (.cells #[I 0,.int .u8 0,I 0,I 0] 122)):=(New.refl w0).alloc _;have hbx:(w0.alloc (.cells #[I 0,.int .u8 0,I 0,I 0] 122)).heap[w0.heap.size]? =some (.cells #[I 0,.int .u8 0,I 0,I 0] 122 (0,0)):=heap_alloc_new w0 _;have hs1:(w0.alloc (.cells #[I 0,.int .u8 0,I 0,I 0] 122)).heap.size=w.heap.size+1+1:=by rw[aG,hs0]
   generalize(w0.alloc (.cells #[I 0,.int .u8 0,I 0,I 0] 122))=w1 at hN1 hbx hs1 ⊢;rw[hs0] at hbx;have HB:=Lib.hid hbx;replace x0:=hN1.cell x0;replace x1:=hN1.cell x1;replace x2:=hN1.cell x2;replace x3:=hN1.cell x3;replace x4:=hN1.cell x4;have k1:=hN0.trans hN1;clear hN0 hN1 hbx hs0;refine(HM w1).mono ?_;rintro e wa ⟨rfl,k2⟩;replace x0:=k2.cell x0;replace x1:=k2.cell x1;replace x2:=k2.cell x2;replace x3:=k2.cell x3;replace x4:=k2.cell x4;replace HB:=Lib.hid (Keeps.heap k2 HB.out (fun h=>h));replace k1:=k1.trans k2;clear k2;obtain⟨⟨r0,r1,r2,r3⟩,⟨f0,f1,f2,f3⟩,hBB⟩:=ek HB.out;go_wp2_with fail;exact bodyPost_ret (v:= .agg #[I 80,.int .u8 0,I 0,I 0]) (by simp[results,Tryz.results64,go_sem,r0,r1,r2,r3,f0,f1,f2,f3,hBB]) rfl ⟨rfl,((((k1).setCell (by simp) _).setCell (by simp) _).setCell (by simp) _).setCell (by simp) _⟩
  ·rw[if_neg h0];have d0:((ak.length:Int)==0)=false:=by
    rw[beq_eq_false_iff_ne];omega
   have d0':decide ((ak.length:Int)=0)=false:=decide_eq_false (by omega);have Ee:decide (ak.length=0)=false:=decide_eq_false (by omega);clear h0;by_cases hm:m0≠0
   ·rw[if_pos hm];have d1:(m0 != 0)=true:=by simpa using hm
    clear hm;go_enter Tryz.func64,Tryz.ntmps64;go_wp2_with fail;have hN0:New w (w.alloc (.cells #[.string ay,.slice gaa ak.length gac,.slice gea ah.length gec,.slice gia aC.length gic,.slice goa au.length goc] 26)):=(New.refl w).alloc _;have hbx:(w.alloc (.cells #[.string ay,.slice gaa ak.length gac,.slice gea ah.length gec,.slice gia aC.length gic,.slice goa au.length goc] 26)).heap[w.heap.size]? =some (.cells #[.string ay,.slice gaa ak.length gac,.slice gea ah.length gec,.slice gia aC.length gic,.slice goa au.length goc] 26 (0,0)):=heap_alloc_new w _;have hs0:(w.alloc (.cells #[.string ay,.slice gaa ak.length gac,.slice gea ah.length gec,.slice gia aC.length gic,.slice goa au.length goc] 26)).heap.size=w.heap.size+1:=aG _ _;generalize(w.alloc (.cells #[.string ay,.slice gaa ak.length gac,.slice gea ah.length gec,.slice gia aC.length gic,.slice goa au.length goc] 26))=w0 at hN0 hbx hs0 ⊢;have x0:w0.cell? ⟨w.heap.size,0,none⟩=some (.string ay):=by rw[cell_of_block hbx 0];simp
    have x1:w0.cell? ⟨w.heap.size,1,none⟩=some (.slice gaa ak.length gac):=by rw[cell_of_block hbx 1];simp
    have x2:w0.cell? ⟨w.heap.size,2,none⟩=some (.slice gea ah.length gec):=by rw[cell_of_block hbx 2];simp
    have x3:w0.cell? ⟨w.heap.size,3,none⟩=some (.slice gia aC.length gic):=by rw[cell_of_block hbx 3];simp
    have x4:w0.cell? ⟨w.heap.size,4,none⟩=some (.slice goa au.length goc):=by rw[cell_of_block hbx 4];simp
    clear hbx;have hN1:New w0 (w0.alloc (.cells #[I 0,.int .u8 0,I 0,I 0] 122)):=(New.refl w0).alloc _;have hbx:(w0.alloc (.cells #[I 0,.int .u8 0,I 0,I 0] 122)).heap[w0.heap.size]? =some (.cells #[I 0,.int .u8 0,I 0,I 0] 122 (0,0)):=heap_alloc_new w0 _;have hs1:(w0.alloc (.cells #[I 0,.int .u8 0,I 0,I 0] 122)).heap.size=w.heap.size+1+1:=by rw[aG,hs0]
    generalize(w0.alloc (.cells #[I 0,.int .u8 0,I 0,I 0] 122))=w1 at hN1 hbx hs1 ⊢;rw[hs0] at hbx;have HB:=Lib.hid hbx;replace x0:=hN1.cell x0;replace x1:=hN1.cell x1;replace x2:=hN1.cell x2;replace x3:=hN1.cell x3;replace x4:=hN1.cell x4;have k1:=hN0.trans hN1;clear hN0 hN1 hbx hs0;refine(HM w1).mono ?_;rintro e wa ⟨rfl,k2⟩;replace x0:=k2.cell x0;replace x1:=k2.cell x1;replace x2:=k2.cell x2;replace x3:=k2.cell x3;replace x4:=k2.cell x4;replace HB:=Lib.hid (Keeps.heap k2 HB.out (fun h=>h));replace k1:=k1.trans k2;clear k2;go_wp2_with fail;refine(HY wa).mono ?_;rintro e wb ⟨rfl,k2⟩;replace x0:=k2.cell x0;replace x1:=k2.cell x1;replace x2:=k2.cell x2;replace x3:=k2.cell x3;replace x4:=k2.cell x4;replace HB:=Lib.hid (Keeps.heap k2 HB.out (fun h=>h));replace k1:=k1.trans k2;clear k2;obtain⟨⟨r0,r1,r2,r3⟩,⟨f0,f1,f2,f3⟩,hBB⟩:=ek HB.out;go_wp2_with fail;exact bodyPost_ret (v:= .agg #[I m0,.int .u8 m1,I m2,I m3]) (by simp[results,Tryz.results64,go_sem,r0,r1,r2,r3,f0,f1,f2,f3,hBB]) rfl ⟨rfl,(((((k1).setCell (by simp) _).setCell (by simp) _).setCell (by simp) _).setCell (by simp) _).alloc _⟩
   ·rw[if_neg hm];have d1:(m0 != 0)=false:=by simpa using hm
    clear hm;obtain⟨S5,h5⟩:∃S5,iv (fun i x=>(if EP i x then(87:Int) else 0,(0:Int))) ak (fun i ed=>(ed.1,1,i,0)) (0,0,0,0)=S5:=⟨_,rfl⟩
    rw[h5];obtain⟨S4,h4⟩:∃S4,iv EO au (fun i ed=>(ed.1,4,i,ed.2)) S5=S4:=⟨_,rfl⟩
    rw[h4];obtain⟨S3,h3⟩:∃S3,iv EI aC (fun i ed=>(ed.1,3,i,ed.2)) S4=S3:=⟨_,rfl⟩
    rw[h3];obtain⟨S2,h2⟩:∃S2,iv EE ah (fun i ed=>(ed.1,2,i,ed.2)) S3=S2:=⟨_,rfl⟩
    rw[h2];obtain⟨S1,h1⟩:∃S1,iv EA ak (fun i ed=>(ed.1,1,i,0)) S2=S1:=⟨_,rfl⟩
    rw[h1];have H1:=Lib.hid h1;have H2:=Lib.hid h2;have H3:=Lib.hid h3;have H4:=Lib.hid h4;have H5:=Lib.hid h5;have HQ1:Hid (S1=S1):=Lib.hid rfl;clear h1 h2 h3 h4 h5;go_enter Tryz.func64,Tryz.ntmps64;go_wp2_with fail;have hN0:New w (w.alloc (.cells #[.string ay,.slice gaa ak.length gac,.slice gea ah.length gec,.slice gia aC.length gic,.slice goa au.length goc] 26)):=(New.refl w).alloc _;have hbx:(w.alloc (.cells #[.string ay,.slice gaa ak.length gac,.slice gea ah.length gec,.slice gia aC.length gic,.slice goa au.length goc] 26)).heap[w.heap.size]? =some (.cells #[.string ay,.slice gaa ak.length gac,.slice gea ah.length gec,.slice gia aC.length gic,.slice goa au.length goc] 26 (0,0)):=heap_alloc_new w _;have hs0:(w.alloc (.cells #[.string ay,.slice gaa ak.length gac,.slice gea ah.length gec,.slice gia aC.length gic,.slice goa au.length goc] 26)).heap.size=w.heap.size+1:=aG _ _;generalize(w.alloc (.cells #[.string ay,.slice gaa ak.length gac,.slice gea ah.length gec,.slice gia aC.length gic,.slice goa au.length goc] 26))=w0 at hN0 hbx hs0 ⊢;have x0:w0.cell? ⟨w.heap.size,0,none⟩=some (.string ay):=by rw[cell_of_block hbx 0];simp
    have x1:w0.cell? ⟨w.heap.size,1,none⟩=some (.slice gaa ak.length gac):=by rw[cell_of_block hbx 1];simp
    have x2:w0.cell? ⟨w.heap.size,2,none⟩=some (.slice gea ah.length gec):=by rw[cell_of_block hbx 2];simp
    have x3:w0.cell? ⟨w.heap.size,3,none⟩=some (.slice gia aC.length gic):=by rw[cell_of_block hbx 3];simp
    have x4:w0.cell? ⟨w.heap.size,4,none⟩=some (.slice goa au.length goc):=by rw[cell_of_block hbx 4];simp
    clear hbx;have hN1:New w0 (w0.alloc (.cells #[I 0,.int .u8 0,I 0,I 0] 122)):=(New.refl w0).alloc _;have hbx:(w0.alloc (.cells #[I 0,.int .u8 0,I 0,I 0] 122)).heap[w0.heap.size]? =some (.cells #[I 0,.int .u8 0,I 0,I 0] 122 (0,0)):=heap_alloc_new w0 _;have hs1:(w0.alloc (.cells #[I 0,.int .u8 0,I 0,I 0] 122)).heap.size=w.heap.size+1+1:=by rw[aG,hs0]
    generalize(w0.alloc (.cells #[I 0,.int .u8 0,I 0,I 0] 122))=w1 at hN1 hbx hs1 ⊢;rw[hs0] at hbx;have HB:=Lib.hid hbx;replace x0:=hN1.cell x0;replace x1:=hN1.cell x1;replace x2:=hN1.cell x2;replace x3:=hN1.cell x3;replace x4:=hN1.cell x4;have k1:=hN0.trans hN1;clear hN0 hN1 hbx hs0;refine(HM w1).mono ?_;rintro e wa ⟨rfl,k2⟩;replace x0:=k2.cell x0;replace x1:=k2.cell x1;replace x2:=k2.cell x2;replace x3:=k2.cell x3;replace x4:=k2.cell x4;replace HB:=Lib.hid (Keeps.heap k2 HB.out (fun h=>h));replace k1:=k1.trans k2;clear k2;go_wp2_with fail;refine(HY wa).mono ?_;rintro e wb ⟨rfl,k2⟩;replace x0:=k2.cell x0;replace x1:=k2.cell x1;replace x2:=k2.cell x2;replace x3:=k2.cell x3;replace x4:=k2.cell x4;replace HB:=Lib.hid (Keeps.heap k2 HB.out (fun h=>h));replace k1:=k1.trans k2;clear k2;go_wp2_with fail;have hN1:New wb (wb.alloc (.cells #[I m0,.int .u8 m1,I m2,I m3] 122)):=(New.refl wb).alloc _;generalize(wb.alloc (.cells #[I m0,.int .u8 m1,I m2,I m3] 122))=wc at hN1 ⊢;generalize wb.heap.size=BL;replace x0:=hN1.cell x0;replace x1:=hN1.cell x1;replace x2:=hN1.cell x2;replace x3:=hN1.cell x3;replace x4:=hN1.cell x4;replace HB:=Lib.hid (Keeps.heap hN1 HB.out (fun h=>h));replace k1:=k1.trans hN1;clear hN1;obtain⟨v0,hv0⟩:∃v0,v0=wc:=⟨_,rfl⟩
    subst hv0;go_loopw [4] (fun i wr=>∃k:Nat,k<=ak.length∧i= .int .i64 k∧Hid (∀j (hj:j<ak.length),j<k->(EA j ak[j]).1=0)∧New v0 wr) (fun i _=>ak.length-(intOf i).toNat)
    case atStart=>exact⟨0,by omega,rfl,Lib.hid (fun j _ hj=>by omega),New.refl _⟩
    case round=>
     obtain⟨k,hk,rfl,HZ,hN⟩:=hrel;have x0r:=hN.cell x0;have x1r:=hN.cell x1;have x2r:=hN.cell x2;have x3r:=hN.cell x3;have x4r:=hN.cell x4;have HBr:=Lib.hid (Keeps.heap hN HB.out (fun h=>h));by_cases hk1:k<ak.length
     ·have hk3:(k:Int)<(ak.length:Int):=by omega
      have hk5:decide (k<ak.length)=true:=decide_eq_true hk1;have hc:=HA wr k (k1.trans hN) hk1;obtain⟨⟨ec,ed⟩,hEk⟩:∃p,EA k ak[k]=p:=⟨_,rfl⟩
      rw[hEk] at hc;simp only at hc;by_cases he:ec=0
      ·have HF:Hid (∀j (hj:j<ak.length),j<k+1->(EA j ak[j]).1=0):=Lib.hid (fun j hj hj1=>by
        by_cases hjk:j=k
        ·subst hjk;rw[hEk];exact he
        ·exact HZ.out j hj (by omega))
       have d1:(ec != 0)=false:=by simp[he]
       clear hEk HZ he;go_wp2_with fail;refine hc.mono ?_;rintro e w3 ⟨rfl,k3⟩;go_wp2_with fail;go_roundw
       case rel=>exact⟨k+1,by omega,by go_num,HF,hN.trans k3⟩
       case measure=>simp[intOf];omega
      ·have HV:Hid (S1=(ec,1,(k:Int),0)):=Lib.hid (by
        rw[<-H1.out,jl hk1 HZ.out (by rw[hEk];exact he),hEk])
       have d1:(ec != 0)=true:=by simp[he]
       clear hEk HZ he;go_wp2_with fail;refine hc.mono ?_;rintro e w3 ⟨rfl,k3⟩;replace HBr:=Lib.hid (Keeps.heap k3 HBr.out (fun h=>h));replace k3:=(k1.trans hN).trans k3;obtain⟨⟨r0,r1,r2,r3⟩,⟨f0,f1,f2,f3⟩,hBB⟩:=ek HBr.out;go_wp2_with fail;exact bodyPost_ret (v:= .agg #[I ec,.int .u8 1,I k,I 0]) (by simp[results,Tryz.results64,go_sem,r0,r1,r2,r3,f0,f1,f2,f3,hBB]) rfl ⟨by rw[HV.out];rfl,((((k3).setCell (by simp) _).setCell (by simp) _).setCell (by simp) _).setCell (by simp) _⟩
     ·have hke:k=ak.length:=by omega
      have hd9:decide (k<ak.length)=false:=decide_eq_false hk1;rw[hke] at HZ;have HQ2:Hid (S1=S2):=Lib.hid (by rw[<-H1.out];exact jk HZ.out);clear HZ hke hk hk1;replace x0:=x0r;replace x1:=x1r;replace x2:=x2r;replace x3:=x3r;replace x4:=x4r;replace HB:=HBr;replace k1:=k1.trans hN;clear hN HBr x0r x1r x2r x3r x4r;go_wp2_with fail;obtain⟨v1,hv⟩:∃v,v=wr:=⟨_,rfl⟩
      subst hv;go_loopw [6] (fun i wr=>∃k:Nat,k<=ah.length∧i= .int .i64 k∧Hid (∀j (hj:j<ah.length),j<k->(EE j ah[j]).1=0)∧New v1 wr) (fun i _=>ah.length-(intOf i).toNat)
      case atStart=>exact⟨0,by omega,rfl,Lib.hid (fun j _ hj=>by omega),New.refl _⟩
      case round=>
       obtain⟨k,hk,rfl,HZ,hN⟩:=hrel;have x0r:=hN.cell x0;have x1r:=hN.cell x1;have x2r:=hN.cell x2;have x3r:=hN.cell x3;have x4r:=hN.cell x4;have HBr:=Lib.hid (Keeps.heap hN HB.out (fun h=>h));by_cases hk1:k<ah.length
       ·have hk3:(k:Int)<(ah.length:Int):=by omega
        have hk5:decide (k<ah.length)=true:=decide_eq_true hk1;have hc:=HE wr k (k1.trans hN) hk1;obtain⟨⟨ec,ed⟩,hEk⟩:∃p,EE k ah[k]=p:=⟨_,rfl⟩
        rw[hEk] at hc;simp only at hc;by_cases he:ec=0
        ·have HF:Hid (∀j (hj:j<ah.length),j<k+1->(EE j ah[j]).1=0):=Lib.hid (fun j hj hj1=>by
          by_cases hjk:j=k
          ·subst hjk;rw[hEk];exact he
          ·exact HZ.out j hj (by omega))
         have d1:(ec != 0)=false:=by simp[he]
         clear hEk HZ he;go_wp2_with fail;refine hc.mono ?_;rintro e w3 ⟨rfl,k3⟩;go_wp2_with fail;go_roundw
         case rel=>exact⟨k+1,by omega,by go_num,HF,hN.trans k3⟩
         case measure=>simp[intOf];omega
        ·have HV:Hid (S1=(ec,2,(k:Int),ed)):=Lib.hid (by
          rw[HQ2.out,<-H2.out,jl hk1 HZ.out (by rw[hEk];exact he),hEk])
         have d1:(ec != 0)=true:=by simp[he]
         clear hEk HZ he;go_wp2_with fail;refine hc.mono ?_;rintro e w3 ⟨rfl,k3⟩;replace HBr:=Lib.hid (Keeps.heap k3 HBr.out (fun h=>h));replace k3:=(k1.trans hN).trans k3;obtain⟨⟨r0,r1,r2,r3⟩,⟨f0,f1,f2,f3⟩,hBB⟩:=ek HBr.out;go_wp2_with fail;exact bodyPost_ret (v:= .agg #[I ec,.int .u8 2,I k,I ed]) (by simp[results,Tryz.results64,go_sem,r0,r1,r2,r3,f0,f1,f2,f3,hBB]) rfl ⟨by rw[HV.out];rfl,((((k3).setCell (by simp) _).setCell (by simp) _).setCell (by simp) _).setCell (by simp) _⟩
       ·have hke:k=ah.length:=by omega
        have hd9:decide (k<ah.length)=false:=decide_eq_false hk1;rw[hke] at HZ;have HQ3:Hid (S1=S3):=Lib.hid (by rw[HQ2.out,<-H2.out];exact jk HZ.out);clear HZ hke hk hk1;replace x0:=x0r;replace x1:=x1r;replace x2:=x2r;replace x3:=x3r;replace x4:=x4r;replace HB:=HBr;replace k1:=k1.trans hN;clear hN HBr x0r x1r x2r x3r x4r;go_wp2_with fail;obtain⟨v2,hv⟩:∃v,v=wr:=⟨_,rfl⟩
        subst hv;go_loopw [9] (fun i wr=>∃k:Nat,k<=aC.length∧i= .int .i64 k∧Hid (∀j (hj:j<aC.length),j<k->(EI j aC[j]).1=0)∧New v2 wr) (fun i _=>aC.length-(intOf i).toNat)
        case atStart=>exact⟨0,by omega,rfl,Lib.hid (fun j _ hj=>by omega),New.refl _⟩
        case round=>
         obtain⟨k,hk,rfl,HZ,hN⟩:=hrel;have x0r:=hN.cell x0;have x1r:=hN.cell x1;have x2r:=hN.cell x2;have x3r:=hN.cell x3;have x4r:=hN.cell x4;have HBr:=Lib.hid (Keeps.heap hN HB.out (fun h=>h));by_cases hk1:k<aC.length
         ·have hk3:(k:Int)<(aC.length:Int):=by omega
          have hk5:decide (k<aC.length)=true:=decide_eq_true hk1;have hc:=HI wr k (k1.trans hN) hk1;obtain⟨⟨ec,ed⟩,hEk⟩:∃p,EI k aC[k]=p:=⟨_,rfl⟩
          rw[hEk] at hc;simp only at hc;by_cases he:ec=0
          ·have HF:Hid (∀j (hj:j<aC.length),j<k+1->(EI j aC[j]).1=0):=Lib.hid (fun j hj hj1=>by
            by_cases hjk:j=k
            ·subst hjk;rw[hEk];exact he
            ·exact HZ.out j hj (by omega))
           have d1:(ec != 0)=false:=by simp[he]
           clear hEk HZ he;go_wp2_with fail;refine hc.mono ?_;rintro e w3 ⟨rfl,k3⟩;go_wp2_with fail;go_roundw
           case rel=>exact⟨k+1,by omega,by go_num,HF,hN.trans k3⟩
           case measure=>simp[intOf];omega
          ·have HV:Hid (S1=(ec,3,(k:Int),ed)):=Lib.hid (by
            rw[HQ3.out,<-H3.out,jl hk1 HZ.out (by rw[hEk];exact he),hEk])
           have d1:(ec != 0)=true:=by simp[he]
           clear hEk HZ he;go_wp2_with fail;refine hc.mono ?_;rintro e w3 ⟨rfl,k3⟩;replace HBr:=Lib.hid (Keeps.heap k3 HBr.out (fun h=>h));replace k3:=(k1.trans hN).trans k3;obtain⟨⟨r0,r1,r2,r3⟩,⟨f0,f1,f2,f3⟩,hBB⟩:=ek HBr.out;go_wp2_with fail;exact bodyPost_ret (v:= .agg #[I ec,.int .u8 3,I k,I ed]) (by simp[results,Tryz.results64,go_sem,r0,r1,r2,r3,f0,f1,f2,f3,hBB]) rfl ⟨by rw[HV.out];rfl,((((k3).setCell (by simp) _).setCell (by simp) _).setCell (by simp) _).setCell (by simp) _⟩
         ·have hke:k=aC.length:=by omega
          have hd9:decide (k<aC.length)=false:=decide_eq_false hk1;rw[hke] at HZ;have HQ4:Hid (S1=S4):=Lib.hid (by rw[HQ3.out,<-H3.out];exact jk HZ.out);clear HZ hke hk hk1;replace x0:=x0r;replace x1:=x1r;replace x2:=x2r;replace x3:=x3r;replace x4:=x4r;replace HB:=HBr;replace k1:=k1.trans hN;clear hN HBr x0r x1r x2r x3r x4r;go_wp2_with fail;obtain⟨v3,hv⟩:∃v,v=wr:=⟨_,rfl⟩
          subst hv;go_loopw [12] (fun i wr=>∃k:Nat,k<=au.length∧i= .int .i64 k∧Hid (∀j (hj:j<au.length),j<k->(EO j au[j]).1=0)∧New v3 wr) (fun i _=>au.length-(intOf i).toNat)
          case atStart=>exact⟨0,by omega,rfl,Lib.hid (fun j _ hj=>by omega),New.refl _⟩
          case round=>
           obtain⟨k,hk,rfl,HZ,hN⟩:=hrel;have x0r:=hN.cell x0;have x1r:=hN.cell x1;have x2r:=hN.cell x2;have x3r:=hN.cell x3;have x4r:=hN.cell x4;have HBr:=Lib.hid (Keeps.heap hN HB.out (fun h=>h));by_cases hk1:k<au.length
           ·have hk3:(k:Int)<(au.length:Int):=by omega
            have hk5:decide (k<au.length)=true:=decide_eq_true hk1;have hc:=HO wr k (k1.trans hN) hk1;obtain⟨⟨ec,ed⟩,hEk⟩:∃p,EO k au[k]=p:=⟨_,rfl⟩
            rw[hEk] at hc;simp only at hc;by_cases he:ec=0
            ·have HF:Hid (∀j (hj:j<au.length),j<k+1->(EO j au[j]).1=0):=Lib.hid (fun j hj hj1=>by
              by_cases hjk:j=k
              ·subst hjk;rw[hEk];exact he
              ·exact HZ.out j hj (by omega))
             have d1:(ec != 0)=false:=by simp[he]
             clear hEk HZ he;go_wp2_with fail;refine hc.mono ?_;rintro e w3 ⟨rfl,k3⟩;go_wp2_with fail;go_roundw
             case rel=>exact⟨k+1,by omega,by go_num,HF,hN.trans k3⟩
             case measure=>simp[intOf];omega
            ·have HV:Hid (S1=(ec,4,(k:Int),ed)):=Lib.hid (by
              rw[HQ4.out,<-H4.out,jl hk1 HZ.out (by rw[hEk];exact he),hEk])
             have d1:(ec != 0)=true:=by simp[he]
             clear hEk HZ he;go_wp2_with fail;refine hc.mono ?_;rintro e w3 ⟨rfl,k3⟩;replace HBr:=Lib.hid (Keeps.heap k3 HBr.out (fun h=>h));replace k3:=(k1.trans hN).trans k3;obtain⟨⟨r0,r1,r2,r3⟩,⟨f0,f1,f2,f3⟩,hBB⟩:=ek HBr.out;go_wp2_with fail;exact bodyPost_ret (v:= .agg #[I ec,.int .u8 4,I k,I ed]) (by simp[results,Tryz.results64,go_sem,r0,r1,r2,r3,f0,f1,f2,f3,hBB]) rfl ⟨by rw[HV.out];rfl,((((k3).setCell (by simp) _).setCell (by simp) _).setCell (by simp) _).setCell (by simp) _⟩
           ·have hke:k=au.length:=by omega
            have hd9:decide (k<au.length)=false:=decide_eq_false hk1;rw[hke] at HZ;have HQ5:Hid (S1=S5):=Lib.hid (by rw[HQ4.out,<-H4.out];exact jk HZ.out);clear HZ hke hk hk1;replace x0:=x0r;replace x1:=x1r;replace x2:=x2r;replace x3:=x3r;replace x4:=x4r;replace HB:=HBr;replace k1:=k1.trans hN;clear hN HBr x0r x1r x2r x3r x4r;go_wp2_with fail;obtain⟨v4,hv⟩:∃v,v=wr:=⟨_,rfl⟩
            subst hv;go_loopw [15] (fun i wr=>∃k:Nat,k<=ak.length∧i= .int .i64 k∧Hid (∀j (hj:j<ak.length),j<k->((fun i x=>(if EP i x then(87:Int) else 0,(0:Int))) j ak[j]).1=0)∧New v4 wr) (fun i _=>ak.length-(intOf i).toNat)
            case atStart=>exact⟨0,by omega,rfl,Lib.hid (fun j _ hj=>by omega),New.refl _⟩
            case round=>
             obtain⟨k,hk,rfl,HZ,hN⟩:=hrel;have x0r:=hN.cell x0;have x1r:=hN.cell x1;have x2r:=hN.cell x2;have x3r:=hN.cell x3;have x4r:=hN.cell x4;have HBr:=Lib.hid (Keeps.heap hN HB.out (fun h=>h));by_cases hk1:k<ak.length
             ·have hk3:(k:Int)<(ak.length:Int):=by omega
              have hk5:decide (k<ak.length)=true:=decide_eq_true hk1;have hc:=HP wr k (k1.trans hN) hk1;cases hEk:EP k ak[k] with
              |false=>
               rw[hEk] at hc;have HF:Hid (∀j (hj:j<ak.length),j<k+1->((fun i x=>(if EP i x then(87:Int) else 0,(0:Int))) j ak[j]).1=0):=Lib.hid (fun j hj hj1=>by
                by_cases hjk:j=k
                ·subst hjk;simp[hEk]
                ·exact HZ.out j hj (by omega))
               clear hEk HZ;go_wp2_with fail;refine hc.mono ?_;rintro e w3 ⟨rfl,k3⟩;go_wp2_with fail;go_roundw
               case rel=>exact⟨k+1,by omega,by go_num,HF,hN.trans k3⟩
               case measure=>simp[intOf];omega
              |true=>
               rw[hEk] at hc;have HV:Hid (S1=(87,1,(k:Int),0)):=Lib.hid (by
                rw[HQ5.out,<-H5.out,jl hk1 HZ.out (by simp[hEk])];simp[hEk])
               clear hEk HZ;go_wp2_with fail;refine hc.mono ?_;rintro e w3 ⟨rfl,k3⟩;replace HBr:=Lib.hid (Keeps.heap k3 HBr.out (fun h=>h));replace k3:=(k1.trans hN).trans k3;obtain⟨⟨r0,r1,r2,r3⟩,⟨f0,f1,f2,f3⟩,hBB⟩:=ek HBr.out;go_wp2_with fail;exact bodyPost_ret (v:= .agg #[I 87,.int .u8 1,I k,I 0]) (by simp[results,Tryz.results64,go_sem,r0,r1,r2,r3,f0,f1,f2,f3,hBB]) rfl ⟨by rw[HV.out];rfl,((((k3).setCell (by simp) _).setCell (by simp) _).setCell (by simp) _).setCell (by simp) _⟩
             ·have hke:k=ak.length:=by omega
              have hd9:decide (k<ak.length)=false:=decide_eq_false hk1;rw[hke] at HZ;have HQ6:Hid (S1=(0,0,0,0)):=Lib.hid (by rw[HQ5.out,<-H5.out];exact jk HZ.out);clear HZ hke hk hk1;replace x0:=x0r;replace x1:=x1r;replace x2:=x2r;replace x3:=x3r;replace x4:=x4r;replace HB:=HBr;replace k1:=k1.trans hN;clear hN HBr x0r x1r x2r x3r x4r;obtain⟨⟨r0,r1,r2,r3⟩,⟨f0,f1,f2,f3⟩,hBB⟩:=ek HB.out;go_wp2_with fail;exact bodyPost_ret (v:= .agg #[I 0,.int .u8 0,I 0,I 0]) (by simp[results,Tryz.results64,go_sem,r0,r1,r2,r3,f0,f1,f2,f3,hBB]) rfl ⟨by rw[HQ6.out];rfl,((((k1).setCell (by simp) _).setCell (by simp) _).setCell (by simp) _).setCell (by simp) _⟩
abbrev gm (r:Nat×List Bool):Value:= .slice (some ⟨r.1,0,none⟩) r.2.length r.2.length
structure Grid (w:World) (B:Nat) (a:Option Addr) (c:Nat) (L:List (Nat×List Bool)):Prop where
 tab:w.ownsRow B 200 1 (.slice a L.length c) L.length (L.map gm)
 row:∀r∈L,w.heap[r.1]? =some (.cells (r.2.map Value.bool).toArray 4 (0,0))
 lo:∀r∈L,B<=r.1
 nd:(L.map (·.1)).Nodup
def xH:Obj->Bool
 | .map _ _=>true
 | .cells _ t _=>t==149||t==200||t==4
 |_=>false
def zZ:Obj->Bool
 | .map _ _=>true
 | .cells _ t _=>t==4
 |_=>false
def KXg (p:Obj->Bool) (B:Nat) (w w':World):Prop:=Keeps (fun k=>B<=k∧∃o,w.heap[k]? =some o∧p o=true) w w'
abbrev KB (B:Nat) (w w':World):Prop:=KXg xH B w w'
abbrev KP (B:Nat) (w w':World):Prop:=KXg zZ B w w'
section
variable {p:Obj->Bool}
theorem KXg.refl (B:Nat) (w:World):KXg p B w w:=Keeps.refl _ _
theorem KXg.of_new {B:Nat} {w w':World} (h:New w w'):KXg p B w w':=Keeps.mono h (fun _ _ h=>h.elim)
theorem KXg.trans {B:Nat} {a b c:World} (h:KXg p B a b) (k:KXg p B b c):KXg p B a c:=
 Keeps.trans h k (fun i hi ⟨hB,o,ho,hc⟩=>by
  refine⟨hB,?_⟩;by_cases hs:B<=i∧∃o,a.heap[i]? =some o∧p o=true
  ·exact hs.2
  ·rw[Keeps.block h i hi hs] at ho;exact⟨o,ho,hc⟩)
theorem KXg.heap {B:Nat} {w w':World} (h:KXg p B w w') {k:Nat} {o:Obj} (hk:w.heap[k]? =some o) (ho:p o=false):w'.heap[k]? =some o:=
 Keeps.heap h hk (fun⟨_,o',h1,h2⟩=>by rw[hk] at h1;cases h1;rw[ho] at h2;cases h2)
theorem KXg.new {B:Nat} {w0 w w':World} (h:KXg p B w w') (hB:B=w0.heap.size) (hN:New w0 w):New w0 w':=
 New.keeps hN h (fun i hi ⟨hb,_⟩=>by omega)
theorem KXg.size {B:Nat} {w w':World} (h:KXg p B w w'):w.heap.size<=w'.heap.size:=Keeps.size h
theorem KXg.set {B:Nat} {w:World} {b i:Nat} {cs:Array Value} {t:TypeId} {fr:Nat×Nat} (h:w.heap[b]? =some (.cells cs t fr)) (hb:B<=b) (ht:p (.cells cs t fr)=true) (v:Value):KXg p B w (w.setCell ⟨b,i,none⟩ v):=
 Keeps.setCell w _ _ ⟨hb,_,h,ht⟩
theorem KXg.to {q:Obj->Bool} {B:Nat} {w w':World} (h:KXg p B w w') (hpq:∀o,p o=true->q o=true):KXg q B w w':=Keeps.mono h (fun i _ ⟨a,o,b,c⟩=>⟨a,o,b,hpq o c⟩)
end
theorem Bc (o:Obj) (h:zZ o=true):xH o=true:=by
 cases o<;>simp_all[zZ,xH]
theorem KXg.wide {B:Nat} {w w':World} (h:KP B w w'):KB B w w':=h.to Bc
def bu (L:List (Nat×List Bool)) (x p:Int):Int:=
 if 0<=x∧x<L.length then(if 0<=p∧p<(L.getD x.toNat (0,[])).2.length then(if(L.getD x.toNat (0,[])).2.getD p.toNat false then 86 else 0) else 85) else 84
def dF (L:List (Nat×List Bool)) (x p:Int):List (Nat×List Bool):=
 if bu L x p=0 then L.set x.toNat ((L.getD x.toNat (0,[])).1,(L.getD x.toNat (0,[])).2.set p.toNat true) else L
theorem mQ (L:List (Nat×List Bool)) (x p:Int):(dF L x p).length=L.length:=by unfold dF;split<;>simp
theorem kM (L:List (Nat×List Bool)) (x p:Int):(dF L x p).map (·.1)=L.map (·.1):=by
 unfold dF;split
 ·apply List.ext_getElem?;intro i;simp only[List.getElem?_map,List.getElem?_set];by_cases h:x.toNat=i
  ·subst h;by_cases hl:x.toNat<L.length
   ·simp[hl,List.getD_eq_getElem?_getD]
   ·simp[hl]
  ·simp[h]
 ·rfl
theorem ur (L:List (Nat×List Bool)) (x p:Int):(dF L x p).map gm=L.map gm:=by
 unfold dF;split
 ·apply List.ext_getElem?;intro i;simp only[List.getElem?_map,List.getElem?_set];by_cases h:x.toNat=i
  ·subst h;by_cases hl:x.toNat<L.length
   ·simp[hl,List.getD_eq_getElem?_getD]
   ·simp[hl]
  ·simp[h]
 ·rfl
theorem Grid.other {S:Nat->Prop} {w w':World} {B:Nat} {a:Option Addr} {c:Nat} {L:List (Nat×List Bool)} (h:Grid w B a c L) (k:Keeps S w w') (h1:∀i,blk a i->¬S i) (h2:∀r∈L,¬S r.1):Grid w' B a c L:=
 ⟨k.owns h.tab (fun i hi=>h1 i (aM hi)),fun r hr=>k.heap (h.row r hr) (h2 r hr),h.lo,h.nd⟩
theorem Grid.new {w w':World} {B:Nat} {a:Option Addr} {c:Nat} {L:List (Nat×List Bool)} (h:Grid w B a c L) (k:New w w'):Grid w' B a c L:=h.other k (fun _ _ h=>h) (fun _ _ h=>h)
theorem Grid.turn {w:World} {B:Nat} {a:Option Addr} {c:Nat} {L:List (Nat×List Bool)} (h:Grid w B a c L) (x p:Nat) (hx:x<L.length) (hp:p<L[x].2.length) (hf:L[x].2[p]=false):
  Grid (w.setCell ⟨L[x].1,p,none⟩ (.bool true)) B a c (dF L x p)∧bu L x p=0∧KP B w (w.setCell ⟨L[x].1,p,none⟩ (.bool true)):=by
 have hg:L.getD x (0,[])=L[x]:=by simp[List.getD_eq_getElem?_getD,hx]
 have hE:bu L x p=0:=by
  unfold bu;simp only[Int.toNat_natCast,hg];rw[if_pos (by omega),if_pos (by omega)];simp[List.getD_eq_getElem?_getD,hp,hf]
 have hL:dF L x p=L.set x (L[x].1,L[x].2.set p true):=by
  unfold dF;rw[if_pos hE];simp only[Int.toNat_natCast,hg]
 have hr:=h.row _ (List.getElem_mem hx);have hk:Keeps (fun k=>k=L[x].1) w (w.setCell ⟨L[x].1,p,none⟩ (.bool true)):=Keeps.setCell w _ _ rfl;refine⟨⟨?_,?_,?_,?_⟩,hE,KXg.set hr (h.lo _ (List.getElem_mem hx)) rfl _⟩
 ·have h0:=hk.owns h.tab (fun k hk e=>by
   subst e;obtain⟨cur,hc⟩:=aL h.tab hk;rw[hr] at hc;simp at hc)
  rw[ur,mQ];exact h0
 ·intro r hrm;rw[hL] at hrm;obtain⟨i,hi,rfl⟩:=List.getElem_of_mem hrm;rw[List.length_set] at hi;rw[List.getElem_set];split
  ·rename_i e;have h4:=block_setCell (i:=p) hr (.bool true);rw[h4];simp[List.map_set]
  ·rename_i e;refine hk.heap (h.row _ (List.getElem_mem hi)) (fun e2=>e ?_);have hnd:=h.nd;unfold List.Nodup at hnd;rw[List.pairwise_iff_getElem] at hnd;rcases Nat.lt_trichotomy x i with h1|h1|h1
   ·exact absurd (by rw[List.getElem_map,List.getElem_map];exact e2.symm) (hnd x i (by simpa using hx) (by simpa using hi) h1)
   ·exact h1
   ·exact absurd (by rw[List.getElem_map,List.getElem_map];exact e2) (hnd i x (by simpa using hi) (by simpa using hx) h1)
 ·intro r hrm;have:r.1∈(dF L x p).map (·.1):=List.mem_map_of_mem hrm;rw[kM] at this;obtain⟨y,hy,hye⟩:=List.mem_map.1 this;rw[<-hye];exact h.lo y hy
 ·rw[kM];exact h.nd
def uy (L:List (Nat×List Bool)):Prop:=L.length<=64∧∀r∈L,r.2.length<=64
theorem ut {L:List (Nat×List Bool)} {x p:Int} (h:bu L x p≠0):dF L x p=L:=by unfold dF;rw[if_neg h]
def iA (w:World) (B:Nat) (a:Option Addr) (c:Nat) (L:List (Nat×List Bool)) (x p:Int) (e:Ending) (w':World):Prop:=
 e= .returned (I (bu L x p))∧Grid w' B a c (dF L x p)∧KP B w w'∧Keeps (fun k=>∃r∈L,r.1=k) w w'
theorem iA.err {w w':World} {B:Nat} {a:Option Addr} {c:Nat} {L:List (Nat×List Bool)} {x p:Int} {n:Int} (h:Grid w B a c L) (hn:n≠0) (he:bu L x p=n) (k:New w w'):iA w B a c L x p (.returned (I n)) w':=by
 unfold iA;rw[ut (by rw[he];exact hn),he];exact⟨rfl,h.new k,KXg.of_new k,Keeps.mono k (fun _ _ h=>h.elim)⟩
theorem ml (w:World) (B:Nat) (a:Option Addr) (c:Nat) (L:List (Nat×List Bool)) (x p:Int) (h:Grid w B a c L) (hl:uy L):
  Calls Tryz.prog 126 #[.slice a L.length c,I x,I p] w (iA w B a c L x p):=by
 have hl1:=hl.1;by_cases hx0:x<0
 ·have hE:bu L x p=84:=by unfold bu;rw[if_neg (by omega)]
  have HT:Hid (∀w',New w w'->iA w B a c L x p (.returned (I 84)) w'):=Lib.hid (fun w' k=>iA.err h (by decide) hE k);clear hE h hl;generalize iA w B a c L x p=T at HT ⊢;go_enter Tryz.func126,Tryz.ntmps126;go_wp2_with fail;exact HT.out _ (New.refl _)
 obtain⟨x,rfl⟩:=Int.eq_ofNat_of_zero_le (by omega:0<=x);have d0:decide ((x:Int)<0)=false:=decide_eq_false hx0;clear hx0;by_cases hx:x<L.length
 case neg=>
  have hE:bu L x p=84:=by unfold bu;rw[if_neg (by omega)]
  have HT:Hid (∀w',New w w'->iA w B a c L x p (.returned (I 84)) w'):=Lib.hid (fun w' k=>iA.err h (by decide) hE k);have d1:decide ((x:Int)<(L.length:Int))=false:=decide_eq_false (by omega);have d2:decide ((L.length:Int)<=(x:Int))=true:=decide_eq_true (by omega);clear hE h hl;generalize iA w B a c L x p=T at HT ⊢;go_enter Tryz.func126,Tryz.ntmps126;go_wp2_with fail;exact HT.out _ (New.refl _)
 have d1:decide ((L.length:Int)<=(x:Int))=false:=decide_eq_false (by omega);have hxI:(x:Int)<(L.length:Int):=by omega
 obtain⟨b,off,rfl,gM⟩:=(ar.of_owns h.tab).at (i:=x) (by simpa using hx);simp only[List.getElem_map] at gM;have hrl:L[x].2.length<=64:=hl.2 _ (List.getElem_mem hx);have hg:L.getD x (0,[])=L[x]:=by simp[List.getD_eq_getElem?_getD,hx]
 by_cases hp:0<=p∧p<L[x].2.length
 case neg=>
  have hE:bu L x p=85:=by
   unfold bu;simp only[Int.toNat_natCast,hg];rw[if_pos (by omega),if_neg hp]
  have HT:Hid (∀w',New w w'->iA w B (some ⟨b,off,none⟩) c L x p (.returned (I 85)) w'):=Lib.hid (fun w' k=>iA.err h (by decide) hE k);clear hE h hl;generalize iA w B (some ⟨b,off,none⟩) c L x p=T at HT ⊢;generalize L[x]=r at gM hp hrl;by_cases hp0:p<0
  ·have d3:decide (p<0)=true:=decide_eq_true hp0;clear hp;go_enter Tryz.func126,Tryz.ntmps126;go_wp2_with fail;exact HT.out _ (New.refl _)
  ·have d3:decide (p<0)=false:=decide_eq_false hp0;have d4:decide ((r.2.length:Int)<=p)=true:=decide_eq_true (by omega);clear hp;go_enter Tryz.func126,Tryz.ntmps126;go_wp2_with fail;exact HT.out _ (New.refl _)
 obtain⟨hp0,hp1⟩:=hp;obtain⟨p,rfl⟩:=Int.eq_ofNat_of_zero_le hp0;have hp:p<L[x].2.length:=by omega
 have qE:w.cell? ⟨L[x].1,p,none⟩=some (.bool L[x].2[p]):=by
  rw[cell_of_block (h.row _ (List.getElem_mem hx)) p];simp[hp]
 have hfz:w.frozen? ⟨L[x].1,p,none⟩=false:=unfrozen_of_block (h.row _ (List.getElem_mem hx)) p;have hbl:L[x].1<w.heap.size:=World.block_lt_of_cell? w _ qE;have d3:decide ((p:Int)<0)=false:=decide_eq_false (by omega);have d4:decide ((L[x].2.length:Int)<=(p:Int))=false:=decide_eq_false (by omega);cases hb:L[x].2[p] with
 |true=>
  have hE:bu L x p=86:=by
   unfold bu;simp only[Int.toNat_natCast,hg];rw[if_pos (by omega),if_pos (by omega)];simp[List.getD_eq_getElem?_getD,hp,hb]
  have HT:Hid (∀w',New w w'->iA w B (some ⟨b,off,none⟩) c L x p (.returned (I 86)) w'):=Lib.hid (fun w' k=>iA.err h (by decide) hE k);rw[hb] at qE;clear hE h hl hb hg;generalize iA w B (some ⟨b,off,none⟩) c L x p=T at HT ⊢;generalize L[x]=r at gM hp hp1 hrl qE hfz hbl d4;go_enter Tryz.func126,Tryz.ntmps126;go_wp2_with fail;exact HT.out _ (New.refl _)
 |false=>
  obtain⟨t1,t2,t3⟩:=h.turn x p hx hp hb;have HT:Hid (iA w B (some ⟨b,off,none⟩) c L x p (.returned (I 0)) (w.setCell ⟨L[x].1,p,none⟩ (.bool true))):=Lib.hid (by
   refine⟨by rw[t2],t1,t3,Keeps.setCell w _ _ ⟨_,List.getElem_mem hx,rfl⟩⟩)
  rw[hb] at qE;clear h hl hb hg t1 t2 t3;generalize iA w B (some ⟨b,off,none⟩) c L x p=T at HT ⊢;generalize L[x]=r at gM hp hp1 hrl qE hfz hbl d4 HT;go_enter Tryz.func126,Tryz.ntmps126;go_wp2_with fail;exact HT.out
open Go.WideMaps (keyOf_string_mk)
set_option linter.all false
theorem oI:Maps.Keyed Tryz.prog 9:=Maps.string_keyed Tryz.underlying9
theorem AM (w:World):(zeroValue 3).run Tryz.prog w= .ok (.int .i64 0) w:=by kernel_rfl
def cH (w:World) (M n:Nat) (V:ByteArray->Int):Prop:=
 ∃D:DataW Unit,w.ownsMap Tryz.prog 9 (plainElem Tryz.prog 3) M n D∧∀s:ByteArray,D.atKey (.string s.data.toList) (.lit (.int .i64 0))= .lit (.int .i64 (V s))
theorem cH.made (w:World):cH (w.alloc (.map #[] 0)) w.heap.size 0 (fun _=>0):=
 ⟨_,World.ownsMap_made w _ _ _,fun s=>rfl⟩
theorem cH.keeps {S:Nat->Prop} {w w':World} {M n:Nat} {V:ByteArray->Int} (h:cH w M n V) (k:Keeps S w w') (hM:¬S M):cH w' M n V:=by
 obtain⟨D,⟨es,iW,hb,F,hs,hD⟩,hV⟩:=h;exact⟨D,⟨es,iW,k.heap hb hM,F,hs,hD⟩,hV⟩
theorem cH.new {w w':World} {M n:Nat} {V:ByteArray->Int} (h:cH w M n V) (k:New w w'):cH w' M n V:=h.keeps k (fun h=>h)
theorem cH.block {w:World} {M n:Nat} {V:ByteArray->Int} (h:cH w M n V):∃es iW,w.heap[M]? =some (.map es iW):=by
 obtain⟨D,⟨es,iW,hb,F,hs,hD⟩,hV⟩:=h;exact⟨es,iW,hb⟩
theorem cH.as {w:World} {M n:Nat} {V V':ByteArray->Int} (h:cH w M n V) (hV:∀s,V s=V' s):cH w M n V':=by
 obtain⟨D,h1,h2⟩:=h;exact⟨D,h1,fun s=>by rw[h2,hV]⟩
theorem zH {s t:ByteArray} (h:s.data.toList=t.data.toList):s=t:=by
 cases s;cases t;simp only at h;rw[Array.toList_inj.1 h]
theorem bj {w:World} {M n:Nat} {V:ByteArray->Int} (s:ByteArray) (h:cH w M n V) (hs:s.size<=9223372036854775807):(Instr.lookup 107 (.map (some M)) (.string s) false).run Tryz.prog w= .ok (.int .i64 (V s)) w:=by
 obtain⟨D,h1,h2⟩:=h;obtain⟨c,hr,hat,_⟩:=h1.lookup_int oI (t:=107) Tryz.underlying107 Tryz.underlying3 (AM _) (keyOf_string_mk (s:=s) Tryz.underlying9 (by unfold maxLen;omega));rw[h2] at hat;simp only[DataW.lit.injEq,Lit.int.injEq,true_and] at hat;rw[hr,hat]
theorem nr {w:World} {ops:Array Oper} {rest:List Oper} {o:Oper} {a:Act} {Q:Exit->Act->World->Prop} {M n:Nat} {V:ByteArray->Int} {s:ByteArray} {v:Int}
  (hgd:o.guard=none) (m x y:Operand) (hop:o.op=Op.mapUpdate 107 m x y) (hm:a.eval m= .map (some M)) (hx:a.eval x= .string s) (hy:a.eval y= .int .i64 v) (h:cH w M n V) (hs:s.size<=9223372036854775807) (hn:n<9223372036854775807)
  (hv:(Lit.int .i64 v).wf=true)
  (hK:∀w',cH w' M (n+1) (fun t=>if t=s then v else V t)->Keeps (fun k=>k=M) w w'->wpList Tryz.prog ops Q rest (a.put o.dst undef) w'):wpList Tryz.prog ops Q (o::rest) a w:=by
 obtain⟨D,h1,h2⟩:=h;have CO:keyOf Tryz.prog 9 (.string s)=some (.string s.data.toList):=keyOf_string_mk Tryz.underlying9 (by unfold maxLen;omega);refine wpList_mapUpdate_own w hgd m x y 107 hop 9 3 oI Tryz.underlying107 (plainElem Tryz.prog 3) M n D hm h1 (by unfold maxLen;omega) (.string s) (.int .i64 v) (.string s.data.toList) hx hy CO (.lit (.int .i64 v)) [] (plainElem_int Tryz.underlying3 hv) ?_;intro w' h1' hg;refine hK w' ⟨_,h1',fun t=>?_⟩ (Keeps.grown hg (fun k e=>by cases e;rfl));simp only;by_cases e:t=s
 ·subst e;rw[if_pos rfl];exact Maps.atKey_put_same h1.isMap (oI.key CO) _ _
 ·rw[if_neg e,Maps.atKey_put_other (by intro h;simp only[Lit.string.injEq] at h;exact e (zH h)),h2]
abbrev sY (g:Gr) (M:Nat) (ia:Option Addr) (ni ic:Nat) (oa:Option Addr) (no oc:Nat):Array Value:=
 #[.string g.name,.slice g.aa g.acts.length g.ac,.slice g.ea g.edges.length g.ec,.slice g.ia g.ins.length g.ic,.slice g.oa g.outs.length g.oc,.map (some M),.slice ia ni ic,.slice oa no oc]
def nv (ns:List ByteArray) (s:ByteArray):Int:=if ns.any (fun t=>decide (aB t=aB s)) then 1 else 0
structure Chk (w:World) (B C M:Nat) (g:Gr) (ns:List ByteArray) (ia:Option Addr) (ic:Nat) (IL:List (Nat×List Bool)) (oa:Option Addr) (oc:Nat) (OL:List (Nat×List Bool)):Prop where
 blk:w.heap[C]? =some (.cells (sY g M ia IL.length ic oa OL.length oc) 149 (0,0))
 loC:B<=C
 loM:B<=M
 nm:cH w M ns.length (nv ns)
 gi:Grid w B ia ic IL
 go:Grid w B oa oc OL
 ta:∀k,Go.Proofs.YtnedmonlofbahaaGreatDoor.blk ia k->¬Go.Proofs.YtnedmonlofbahaaGreatDoor.blk oa k
 ro:∀r∈IL,∀r'∈OL,r.1≠r'.1
theorem Chk.new {w w':World} {B C M:Nat} {g:Gr} {ns:List ByteArray} {ia:Option Addr} {ic:Nat} {IL:List (Nat×List Bool)} {oa:Option Addr} {oc:Nat} {OL:List (Nat×List Bool)} (h:Chk w B C M g ns ia ic IL oa oc OL) (k:New w w'):Chk w' B C M g ns ia ic IL oa oc OL:=
 ⟨Keeps.heap k h.blk (fun h=>h),h.loC,h.loM,h.nm.new k,h.gi.new k,h.go.new k,h.ta,h.ro⟩
theorem dk {w:World} {C:Nat} {a0 a1 a2 a3 a4 a5 a6 a7:Value} (h:w.heap[C]? =some (.cells #[a0,a1,a2,a3,a4,a5,a6,a7] 149 (0,0))):
  (w.cell? ⟨C,0,none⟩=some a0∧w.cell? ⟨C,1,none⟩=some a1∧w.cell? ⟨C,2,none⟩=some a2∧w.cell? ⟨C,3,none⟩=some a3∧w.cell? ⟨C,4,none⟩=some a4∧w.cell? ⟨C,5,none⟩=some a5∧w.cell? ⟨C,6,none⟩=some a6∧w.cell? ⟨C,7,none⟩=some a7)∧
  (∀i,w.frozen? ⟨C,i,none⟩=false)∧C<w.heap.size:=by
 refine⟨⟨?_,?_,?_,?_,?_,?_,?_,?_⟩,fun i=>unfrozen_of_block h i,(Array.getElem?_eq_some_iff.1 h).1⟩;all_goals rw[cell_of_block h];rfl
theorem vP (ns:List ByteArray) (s t:ByteArray):nv (ns++[s]) t=if t=s then 1 else nv ns t:=by
 unfold nv;rw[List.any_append];by_cases e:t=s
 ·subst e;simp
 ·have:¬aB s=aB t:=fun h=>e (jq.1 h).symm
  simp[e,this]
theorem qz (w:World) (B C M:Nat) (g:Gr) (ns:List ByteArray) (ia:Option Addr) (ic:Nat) (IL:List (Nat×List Bool)) (oa:Option Addr) (oc:Nat) (OL:List (Nat×List Bool)) (s:ByteArray)
  (h:Chk w B C M g ns ia ic IL oa oc OL) (hs:s.size<=9223372036854775807) (hn:ns.length<=1000):
  Calls Tryz.prog 124 #[.pointer (some ⟨C,0,none⟩),.string s] w fun e w'=>e= .returned (I (cP ns s))∧Chk w' B C M g (if cP ns s=0 then ns++[s] else ns) ia ic IL oa oc OL∧KP B w w':=by
 obtain⟨⟨_,_,_,_,_,c5,_,_⟩,_,hCl⟩:=dk h.blk;have HN:=f9 w s hs;cases e1:aQ s with
 |false=>
  have hE:cP ns s=82:=by unfold cP;simp[e1]
  rw[hE,if_neg (by decide)];rw[e1] at HN;have HF:∀w',New w w'->Chk w' B C M g ns ia ic IL oa oc OL∧KP B w w':=fun w' k=>⟨h.new k,KXg.of_new k⟩
  clear h e1 hE;go_enter Tryz.func124,Tryz.ntmps124;go_wp2_with fail;refine HN.mono ?_;rintro e w2 ⟨rfl,k2⟩;go_wp2_with fail;go_ret
  exact⟨rfl,HF _ k2⟩
 |true=>
  rw[e1] at HN;cases e2:ns.any (fun t=>decide (aB t=aB s)) with
  |true=>
   have hE:cP ns s=83:=by unfold cP;simp[e1,e2]
   have hV:nv ns s=1:=by unfold nv;simp[e2]
   rw[hE,if_neg (by decide)];have HF:∀w',New w w'->(Chk w' B C M g ns ia ic IL oa oc OL∧KP B w w')∧cH w' M ns.length (nv ns):=fun w' k=>⟨⟨h.new k,KXg.of_new k⟩,h.nm.new k⟩
   clear h e1 e2 hE;go_enter Tryz.func124,Tryz.ntmps124;go_wp2_with fail;refine HN.mono ?_;rintro e w2 ⟨rfl,k2⟩;obtain⟨HF1,hm⟩:=HF _ k2;replace c5:=k2.cell c5;have hr:=bj s hm hs;rw[hV] at hr;clear hV HF hm;have ti:C<w2.heap.size:=Nat.lt_of_lt_of_le hCl k2.size;go_wp2_with fail;go_ret
   exact⟨rfl,HF1⟩
  |false=>
   have hE:cP ns s=0:=by unfold cP;simp[e1,e2]
   have hV:nv ns s=0:=by unfold nv;simp[e2]
   rw[hE,if_pos rfl];have HF:∀w',New w w'->cH w' M ns.length (nv ns)∧(∀w2,cH w2 M (ns.length+1) (fun t=>if t=s then 1 else nv ns t)->Keeps (fun k=>k=M) w' w2->Chk w2 B C M g (ns++[s]) ia ic IL oa oc OL∧KP B w w2):=by
    intro w' k;have h':=h.new k;obtain⟨es,iW,hM⟩:=h'.nm.block;have hne:∀ {b:Nat} {cs:Array Value} {t:TypeId} {fr:Nat×Nat},w'.heap[b]? =some (.cells cs t fr)->¬b=M:=by
     rintro b cs t fr hb rfl;rw[hM] at hb;cases hb
    refine⟨h'.nm,fun w2 hm2 k2=>⟨⟨k2.heap h'.blk (hne h'.blk),h.loC,h.loM,?_,?_,?_,h.ta,h.ro⟩,?_⟩⟩
    ·rw[List.length_append];exact hm2.as (fun t=>(vP ns s t).symm)
    ·refine h'.gi.other k2 (fun i hi=>?_) (fun r hr=>hne (h'.gi.row r hr));obtain⟨cur,hc⟩:=aL h'.gi.tab (aV hi);exact hne hc
    ·refine h'.go.other k2 (fun i hi=>?_) (fun r hr=>hne (h'.go.row r hr));obtain⟨cur,hc⟩:=aL h'.go.tab (aV hi);exact hne hc
    ·refine(KXg.of_new k).trans (Keeps.mono k2 ?_);rintro i _ rfl;exact⟨h.loM,_,hM,rfl⟩
   clear h e1 e2 hE;go_enter Tryz.func124,Tryz.ntmps124;go_wp2_with fail;refine HN.mono ?_;rintro e w2 ⟨rfl,k2⟩;obtain⟨hm,HF1⟩:=HF _ k2;replace c5:=k2.cell c5;have hr:=bj s hm hs;rw[hV] at hr;clear hV HF;have ti:C<w2.heap.size:=Nat.lt_of_lt_of_le hCl k2.size;go_wp2_with (at_mapUpdate;refine nr rfl _ _ _ rfl rfl rfl rfl hm hs (by omega) (by decide) ?_);intro w3 hm3 k3;have HF2:=HF1 w3 hm3 k3;clear HF1 hm hm3 hr;go_wp2_with fail;go_ret
   exact⟨rfl,HF2⟩
end Go.Proofs.YtnedmonlofbahaaGreatDoor
