/-
  GrL, GrM, GrN, GrO: what is wanted of them.
-/
import Derived.Test.YtnedmonlofbahaaGreatDoorGwD
namespace Go.Proofs.YtnedmonlofbahaaGreatDoor
open Go Go.RowKit Go.Joins
set_option linter.all false
def gd (g:Gr):Int×Int×Int×Int:=if aM g.name=false then(82,0,0,0) else if g.acts.length=0 then(80,0,0,0) else gf g
def gY (f:Int×Int×Int×Int):Value:=iQ f.1 f.2.1 f.2.2.1 f.2.2.2
set_option maxRecDepth 100000 in
set_option maxHeartbeats 8000000 in
theorem qc (w:World) (C M:Nat) (g:Gr) (ia:Option Addr) (ni ic:Nat) (oa:Option Addr) (no oc:Nat) (h:w.heap[C]? =some (.cells (om g M ia ni ic oa no oc) 149 (0,0))) (hl:GLen g):
  Calls Tryz.prog 83 #[.pointer (some ⟨C,0,none⟩)] w fun e w'=>e= .returned (gY (gd g))∧New w w':=by
 obtain⟨⟨c0,c1,c2,c3,c4,_,_,_⟩,_,hCl⟩:=cH h;have hla:=hl.a;have hle:=hl.e;have hli:=hl.i;have hlo:=hl.o;have HN:∀W,Calls Tryz.prog 71 #[.string g.name] W fun e w'=>e= .returned (.bool (aM g.name))∧New W w':=fun W=>eR W _ hl.n
 clear hl h;unfold gd gf gY;obtain⟨gname,gaa,gac,gacts,gea,gec,gedges,gia,gic,gins,goa,goc,gouts⟩:=g;simp only at hla hle hli hlo HN c0 c1 c2 c3 c4 ⊢;generalize aM gname=nb at HN ⊢;cases nb with
 |false=>
  rw[if_pos rfl];go_enter Tryz.func83,Tryz.ntmps83;go_wp2_with fail;have hs0:(w.alloc (.cells #[.int .u8 0,I 0,I 0] 85)).heap.size=w.heap.size+1:=ay _ _;have k0:New w (w.alloc (.cells #[.int .u8 0,I 0,I 0] 85)):=(New.refl w).alloc _;have hbx:(w.alloc (.cells #[.int .u8 0,I 0,I 0] 85)).heap[w.heap.size]? =some (.cells #[.int .u8 0,I 0,I 0] 85 (0,0)):=heap_alloc_new w _;generalize(w.alloc (.cells #[.int .u8 0,I 0,I 0] 85))=w0 at k0 hbx hs0 ⊢;have HB:=Lib.hid hbx;clear hbx;have k1:New w0 (w0.alloc (.cells #[.string gname,.slice gaa gacts.length gac,.slice gea gedges.length gec,.slice gia gins.length gic,.slice goa gouts.length goc] 26)):=(New.refl w0).alloc _;have hby:(w0.alloc (.cells #[.string gname,.slice gaa gacts.length gac,.slice gea gedges.length gec,.slice gia gins.length gic,.slice goa gouts.length goc] 26)).heap[w0.heap.size]? =some (.cells #[.string gname,.slice gaa gacts.length gac,.slice gea gedges.length gec,.slice gia gins.length gic,.slice goa gouts.length goc] 26 (0,0)):=heap_alloc_new w0 _;rw[hs0] at hby;generalize(w0.alloc (.cells #[.string gname,.slice gaa gacts.length gac,.slice gea gedges.length gec,.slice gia gins.length gic,.slice goa gouts.length goc] 26))=w1 at k1 hby ⊢;have x0:w1.cell? ⟨w.heap.size+1,0,none⟩=some (.string gname):=by rw[cell_of_block hby 0];simp
  have x1:w1.cell? ⟨w.heap.size+1,1,none⟩=some (.slice gaa gacts.length gac):=by rw[cell_of_block hby 1];simp
  have x2:w1.cell? ⟨w.heap.size+1,2,none⟩=some (.slice gea gedges.length gec):=by rw[cell_of_block hby 2];simp
  have x3:w1.cell? ⟨w.heap.size+1,3,none⟩=some (.slice gia gins.length gic):=by rw[cell_of_block hby 3];simp
  have x4:w1.cell? ⟨w.heap.size+1,4,none⟩=some (.slice goa gouts.length goc):=by rw[cell_of_block hby 4];simp
  clear hby;replace HB:=Lib.hid (Keeps.heap k1 HB.out (fun h=>h));replace k0:=k0.trans k1;clear k1 hs0 c0 c1 c2 c3 c4;refine(HN w1).mono ?_;rintro e w2 ⟨rfl,k2⟩;replace x0:=k2.cell x0;replace x1:=k2.cell x1;replace x2:=k2.cell x2;replace x3:=k2.cell x3;replace x4:=k2.cell x4;replace HB:=Lib.hid (Keeps.heap k2 HB.out (fun h=>h));replace k0:=k0.trans k2;clear k2;obtain⟨⟨r0,r1,r2⟩,⟨f0,f1,f2⟩,hBB⟩:=aK HB.out;go_wp2_with fail;exact bodyPost_ret (v:= .tuple #[I 82,.agg #[.int .u8 0,I 0,I 0]]) (by simp[results,Tryz.results83,go_sem,r0,r1,r2,f0,f1,f2,hBB]) rfl ⟨rfl,((k0.setCell (by simp) _).setCell (by simp) _).setCell (by simp) _⟩
 |true=>
  rw[if_neg (by simp)];by_cases h0:gacts.length=0
  ·rw[if_pos h0];have d0:((gacts.length:Int)==0)=true:=by simp[h0]
   have d0':decide ((gacts.length:Int)=0)=true:=by simp[h0]
   have d0'':decide (gacts.length=0)=true:=by simp[h0]
   clear h0;go_enter Tryz.func83,Tryz.ntmps83;go_wp2_with fail;have hs0:(w.alloc (.cells #[.int .u8 0,I 0,I 0] 85)).heap.size=w.heap.size+1:=ay _ _;have k0:New w (w.alloc (.cells #[.int .u8 0,I 0,I 0] 85)):=(New.refl w).alloc _;have hbx:(w.alloc (.cells #[.int .u8 0,I 0,I 0] 85)).heap[w.heap.size]? =some (.cells #[.int .u8 0,I 0,I 0] 85 (0,0)):=heap_alloc_new w _;generalize(w.alloc (.cells #[.int .u8 0,I 0,I 0] 85))=w0 at k0 hbx hs0 ⊢;have HB:=Lib.hid hbx;clear hbx;have k1:New w0 (w0.alloc (.cells #[.string gname,.slice gaa gacts.length gac,.slice gea gedges.length gec,.slice gia gins.length gic,.slice goa gouts.length goc] 26)):=(New.refl w0).alloc _;have hby:(w0.alloc (.cells #[.string gname,.slice gaa gacts.length gac,.slice gea gedges.length gec,.slice gia gins.length gic,.slice goa gouts.length goc] 26)).heap[w0.heap.size]? =some (.cells #[.string gname,.slice gaa gacts.length gac,.slice gea gedges.length gec,.slice gia gins.length gic,.slice goa gouts.length goc] 26 (0,0)):=heap_alloc_new w0 _;rw[hs0] at hby;generalize(w0.alloc (.cells #[.string gname,.slice gaa gacts.length gac,.slice gea gedges.length gec,.slice gia gins.length gic,.slice goa gouts.length goc] 26))=w1 at k1 hby ⊢;have x0:w1.cell? ⟨w.heap.size+1,0,none⟩=some (.string gname):=by rw[cell_of_block hby 0];simp
   have x1:w1.cell? ⟨w.heap.size+1,1,none⟩=some (.slice gaa gacts.length gac):=by rw[cell_of_block hby 1];simp
   have x2:w1.cell? ⟨w.heap.size+1,2,none⟩=some (.slice gea gedges.length gec):=by rw[cell_of_block hby 2];simp
   have x3:w1.cell? ⟨w.heap.size+1,3,none⟩=some (.slice gia gins.length gic):=by rw[cell_of_block hby 3];simp
   have x4:w1.cell? ⟨w.heap.size+1,4,none⟩=some (.slice goa gouts.length goc):=by rw[cell_of_block hby 4];simp
   clear hby;replace HB:=Lib.hid (Keeps.heap k1 HB.out (fun h=>h));replace k0:=k0.trans k1;clear k1 hs0 c0 c1 c2 c3 c4;refine(HN w1).mono ?_;rintro e w2 ⟨rfl,k2⟩;replace x0:=k2.cell x0;replace x1:=k2.cell x1;replace x2:=k2.cell x2;replace x3:=k2.cell x3;replace x4:=k2.cell x4;replace HB:=Lib.hid (Keeps.heap k2 HB.out (fun h=>h));replace k0:=k0.trans k2;clear k2;obtain⟨⟨r0,r1,r2⟩,⟨f0,f1,f2⟩,hBB⟩:=aK HB.out;go_wp2_with fail;exact bodyPost_ret (v:= .tuple #[I 80,.agg #[.int .u8 0,I 0,I 0]]) (by simp[results,Tryz.results83,go_sem,r0,r1,r2,f0,f1,f2,hBB]) rfl ⟨rfl,((k0.setCell (by simp) _).setCell (by simp) _).setCell (by simp) _⟩
  ·rw[if_neg h0];have d0:((gacts.length:Int)==0)=false:=by
    rw[beq_eq_false_iff_ne];omega
   have d0':decide ((gacts.length:Int)=0)=false:=decide_eq_false (by omega);have d0'':decide (gacts.length=0)=false:=decide_eq_false (by omega);clear h0;by_cases h0:32<gacts.length
   ·rw[if_pos h0];have d0x:decide ((32:Int)<(gacts.length:Int))=true:=decide_eq_true (by omega);clear h0;go_enter Tryz.func83,Tryz.ntmps83;go_wp2_with fail;have hs0:(w.alloc (.cells #[.int .u8 0,I 0,I 0] 85)).heap.size=w.heap.size+1:=ay _ _;have k0:New w (w.alloc (.cells #[.int .u8 0,I 0,I 0] 85)):=(New.refl w).alloc _;have hbx:(w.alloc (.cells #[.int .u8 0,I 0,I 0] 85)).heap[w.heap.size]? =some (.cells #[.int .u8 0,I 0,I 0] 85 (0,0)):=heap_alloc_new w _;generalize(w.alloc (.cells #[.int .u8 0,I 0,I 0] 85))=w0 at k0 hbx hs0 ⊢;have HB:=Lib.hid hbx;clear hbx;have k1:New w0 (w0.alloc (.cells #[.string gname,.slice gaa gacts.length gac,.slice gea gedges.length gec,.slice gia gins.length gic,.slice goa gouts.length goc] 26)):=(New.refl w0).alloc _;have hby:(w0.alloc (.cells #[.string gname,.slice gaa gacts.length gac,.slice gea gedges.length gec,.slice gia gins.length gic,.slice goa gouts.length goc] 26)).heap[w0.heap.size]? =some (.cells #[.string gname,.slice gaa gacts.length gac,.slice gea gedges.length gec,.slice gia gins.length gic,.slice goa gouts.length goc] 26 (0,0)):=heap_alloc_new w0 _;rw[hs0] at hby;generalize(w0.alloc (.cells #[.string gname,.slice gaa gacts.length gac,.slice gea gedges.length gec,.slice gia gins.length gic,.slice goa gouts.length goc] 26))=w1 at k1 hby ⊢;have x0:w1.cell? ⟨w.heap.size+1,0,none⟩=some (.string gname):=by rw[cell_of_block hby 0];simp
    have x1:w1.cell? ⟨w.heap.size+1,1,none⟩=some (.slice gaa gacts.length gac):=by rw[cell_of_block hby 1];simp
    have x2:w1.cell? ⟨w.heap.size+1,2,none⟩=some (.slice gea gedges.length gec):=by rw[cell_of_block hby 2];simp
    have x3:w1.cell? ⟨w.heap.size+1,3,none⟩=some (.slice gia gins.length gic):=by rw[cell_of_block hby 3];simp
    have x4:w1.cell? ⟨w.heap.size+1,4,none⟩=some (.slice goa gouts.length goc):=by rw[cell_of_block hby 4];simp
    clear hby;replace HB:=Lib.hid (Keeps.heap k1 HB.out (fun h=>h));replace k0:=k0.trans k1;clear k1 hs0 c0 c1 c2 c3 c4;refine(HN w1).mono ?_;rintro e w2 ⟨rfl,k2⟩;replace x0:=k2.cell x0;replace x1:=k2.cell x1;replace x2:=k2.cell x2;replace x3:=k2.cell x3;replace x4:=k2.cell x4;replace HB:=Lib.hid (Keeps.heap k2 HB.out (fun h=>h));replace k0:=k0.trans k2;clear k2;obtain⟨⟨r0,r1,r2⟩,⟨f0,f1,f2⟩,hBB⟩:=aK HB.out;go_wp2_with fail;exact bodyPost_ret (v:= .tuple #[I 81,.agg #[.int .u8 1,I 32,I 0]]) (by simp[results,Tryz.results83,go_sem,r0,r1,r2,f0,f1,f2,hBB]) rfl ⟨rfl,((k0.setCell (by simp) _).setCell (by simp) _).setCell (by simp) _⟩
   ·rw[if_neg h0];by_cases h1:96<gedges.length
    ·rw[if_pos h1];have d0x:decide ((32:Int)<(gacts.length:Int))=false:=decide_eq_false (by omega);have d1x:decide ((96:Int)<(gedges.length:Int))=true:=decide_eq_true (by omega);clear h0 h1;go_enter Tryz.func83,Tryz.ntmps83;go_wp2_with fail;have hs0:(w.alloc (.cells #[.int .u8 0,I 0,I 0] 85)).heap.size=w.heap.size+1:=ay _ _;have k0:New w (w.alloc (.cells #[.int .u8 0,I 0,I 0] 85)):=(New.refl w).alloc _;have hbx:(w.alloc (.cells #[.int .u8 0,I 0,I 0] 85)).heap[w.heap.size]? =some (.cells #[.int .u8 0,I 0,I 0] 85 (0,0)):=heap_alloc_new w _;generalize(w.alloc (.cells #[.int .u8 0,I 0,I 0] 85))=w0 at k0 hbx hs0 ⊢;have HB:=Lib.hid hbx;clear hbx;have k1:New w0 (w0.alloc (.cells #[.string gname,.slice gaa gacts.length gac,.slice gea gedges.length gec,.slice gia gins.length gic,.slice goa gouts.length goc] 26)):=(New.refl w0).alloc _;have hby:(w0.alloc (.cells #[.string gname,.slice gaa gacts.length gac,.slice gea gedges.length gec,.slice gia gins.length gic,.slice goa gouts.length goc] 26)).heap[w0.heap.size]? =some (.cells #[.string gname,.slice gaa gacts.length gac,.slice gea gedges.length gec,.slice gia gins.length gic,.slice goa gouts.length goc] 26 (0,0)):=heap_alloc_new w0 _;rw[hs0] at hby;generalize(w0.alloc (.cells #[.string gname,.slice gaa gacts.length gac,.slice gea gedges.length gec,.slice gia gins.length gic,.slice goa gouts.length goc] 26))=w1 at k1 hby ⊢;have x0:w1.cell? ⟨w.heap.size+1,0,none⟩=some (.string gname):=by rw[cell_of_block hby 0];simp
     have x1:w1.cell? ⟨w.heap.size+1,1,none⟩=some (.slice gaa gacts.length gac):=by rw[cell_of_block hby 1];simp
     have x2:w1.cell? ⟨w.heap.size+1,2,none⟩=some (.slice gea gedges.length gec):=by rw[cell_of_block hby 2];simp
     have x3:w1.cell? ⟨w.heap.size+1,3,none⟩=some (.slice gia gins.length gic):=by rw[cell_of_block hby 3];simp
     have x4:w1.cell? ⟨w.heap.size+1,4,none⟩=some (.slice goa gouts.length goc):=by rw[cell_of_block hby 4];simp
     clear hby;replace HB:=Lib.hid (Keeps.heap k1 HB.out (fun h=>h));replace k0:=k0.trans k1;clear k1 hs0 c0 c1 c2 c3 c4;refine(HN w1).mono ?_;rintro e w2 ⟨rfl,k2⟩;replace x0:=k2.cell x0;replace x1:=k2.cell x1;replace x2:=k2.cell x2;replace x3:=k2.cell x3;replace x4:=k2.cell x4;replace HB:=Lib.hid (Keeps.heap k2 HB.out (fun h=>h));replace k0:=k0.trans k2;clear k2;obtain⟨⟨r0,r1,r2⟩,⟨f0,f1,f2⟩,hBB⟩:=aK HB.out;go_wp2_with fail;exact bodyPost_ret (v:= .tuple #[I 81,.agg #[.int .u8 2,I 96,I 0]]) (by simp[results,Tryz.results83,go_sem,r0,r1,r2,f0,f1,f2,hBB]) rfl ⟨rfl,((k0.setCell (by simp) _).setCell (by simp) _).setCell (by simp) _⟩
    ·rw[if_neg h1];by_cases h2:16<gins.length
     ·rw[if_pos h2];have d0x:decide ((32:Int)<(gacts.length:Int))=false:=decide_eq_false (by omega);have d1x:decide ((96:Int)<(gedges.length:Int))=false:=decide_eq_false (by omega);have d2x:decide ((16:Int)<(gins.length:Int))=true:=decide_eq_true (by omega);clear h0 h1 h2;go_enter Tryz.func83,Tryz.ntmps83;go_wp2_with fail;have hs0:(w.alloc (.cells #[.int .u8 0,I 0,I 0] 85)).heap.size=w.heap.size+1:=ay _ _;have k0:New w (w.alloc (.cells #[.int .u8 0,I 0,I 0] 85)):=(New.refl w).alloc _;have hbx:(w.alloc (.cells #[.int .u8 0,I 0,I 0] 85)).heap[w.heap.size]? =some (.cells #[.int .u8 0,I 0,I 0] 85 (0,0)):=heap_alloc_new w _;generalize(w.alloc (.cells #[.int .u8 0,I 0,I 0] 85))=w0 at k0 hbx hs0 ⊢;have HB:=Lib.hid hbx;clear hbx;have k1:New w0 (w0.alloc (.cells #[.string gname,.slice gaa gacts.length gac,.slice gea gedges.length gec,.slice gia gins.length gic,.slice goa gouts.length goc] 26)):=(New.refl w0).alloc _;have hby:(w0.alloc (.cells #[.string gname,.slice gaa gacts.length gac,.slice gea gedges.length gec,.slice gia gins.length gic,.slice goa gouts.length goc] 26)).heap[w0.heap.size]? =some (.cells #[.string gname,.slice gaa gacts.length gac,.slice gea gedges.length gec,.slice gia gins.length gic,.slice goa gouts.length goc] 26 (0,0)):=heap_alloc_new w0 _;rw[hs0] at hby;generalize(w0.alloc (.cells #[.string gname,.slice gaa gacts.length gac,.slice gea gedges.length gec,.slice gia gins.length gic,.slice goa gouts.length goc] 26))=w1 at k1 hby ⊢;have x0:w1.cell? ⟨w.heap.size+1,0,none⟩=some (.string gname):=by rw[cell_of_block hby 0];simp
      have x1:w1.cell? ⟨w.heap.size+1,1,none⟩=some (.slice gaa gacts.length gac):=by rw[cell_of_block hby 1];simp
      have x2:w1.cell? ⟨w.heap.size+1,2,none⟩=some (.slice gea gedges.length gec):=by rw[cell_of_block hby 2];simp
      have x3:w1.cell? ⟨w.heap.size+1,3,none⟩=some (.slice gia gins.length gic):=by rw[cell_of_block hby 3];simp
      have x4:w1.cell? ⟨w.heap.size+1,4,none⟩=some (.slice goa gouts.length goc):=by rw[cell_of_block hby 4];simp
      clear hby;replace HB:=Lib.hid (Keeps.heap k1 HB.out (fun h=>h));replace k0:=k0.trans k1;clear k1 hs0 c0 c1 c2 c3 c4;refine(HN w1).mono ?_;rintro e w2 ⟨rfl,k2⟩;replace x0:=k2.cell x0;replace x1:=k2.cell x1;replace x2:=k2.cell x2;replace x3:=k2.cell x3;replace x4:=k2.cell x4;replace HB:=Lib.hid (Keeps.heap k2 HB.out (fun h=>h));replace k0:=k0.trans k2;clear k2;obtain⟨⟨r0,r1,r2⟩,⟨f0,f1,f2⟩,hBB⟩:=aK HB.out;go_wp2_with fail;exact bodyPost_ret (v:= .tuple #[I 81,.agg #[.int .u8 3,I 16,I 0]]) (by simp[results,Tryz.results83,go_sem,r0,r1,r2,f0,f1,f2,hBB]) rfl ⟨rfl,((k0.setCell (by simp) _).setCell (by simp) _).setCell (by simp) _⟩
     ·rw[if_neg h2];by_cases h3:16<gouts.length
      ·rw[if_pos h3];have d0x:decide ((32:Int)<(gacts.length:Int))=false:=decide_eq_false (by omega);have d1x:decide ((96:Int)<(gedges.length:Int))=false:=decide_eq_false (by omega);have d2x:decide ((16:Int)<(gins.length:Int))=false:=decide_eq_false (by omega);have d3x:decide ((16:Int)<(gouts.length:Int))=true:=decide_eq_true (by omega);clear h0 h1 h2 h3;go_enter Tryz.func83,Tryz.ntmps83;go_wp2_with fail;have hs0:(w.alloc (.cells #[.int .u8 0,I 0,I 0] 85)).heap.size=w.heap.size+1:=ay _ _;have k0:New w (w.alloc (.cells #[.int .u8 0,I 0,I 0] 85)):=(New.refl w).alloc _;have hbx:(w.alloc (.cells #[.int .u8 0,I 0,I 0] 85)).heap[w.heap.size]? =some (.cells #[.int .u8 0,I 0,I 0] 85 (0,0)):=heap_alloc_new w _;generalize(w.alloc (.cells #[.int .u8 0,I 0,I 0] 85))=w0 at k0 hbx hs0 ⊢;have HB:=Lib.hid hbx;clear hbx;have k1:New w0 (w0.alloc (.cells #[.string gname,.slice gaa gacts.length gac,.slice gea gedges.length gec,.slice gia gins.length gic,.slice goa gouts.length goc] 26)):=(New.refl w0).alloc _;have hby:(w0.alloc (.cells #[.string gname,.slice gaa gacts.length gac,.slice gea gedges.length gec,.slice gia gins.length gic,.slice goa gouts.length goc] 26)).heap[w0.heap.size]? =some (.cells #[.string gname,.slice gaa gacts.length gac,.slice gea gedges.length gec,.slice gia gins.length gic,.slice goa gouts.length goc] 26 (0,0)):=heap_alloc_new w0 _;rw[hs0] at hby;generalize(w0.alloc (.cells #[.string gname,.slice gaa gacts.length gac,.slice gea gedges.length gec,.slice gia gins.length gic,.slice goa gouts.length goc] 26))=w1 at k1 hby ⊢;have x0:w1.cell? ⟨w.heap.size+1,0,none⟩=some (.string gname):=by rw[cell_of_block hby 0];simp
       have x1:w1.cell? ⟨w.heap.size+1,1,none⟩=some (.slice gaa gacts.length gac):=by rw[cell_of_block hby 1];simp
       have x2:w1.cell? ⟨w.heap.size+1,2,none⟩=some (.slice gea gedges.length gec):=by rw[cell_of_block hby 2];simp
       have x3:w1.cell? ⟨w.heap.size+1,3,none⟩=some (.slice gia gins.length gic):=by rw[cell_of_block hby 3];simp
       have x4:w1.cell? ⟨w.heap.size+1,4,none⟩=some (.slice goa gouts.length goc):=by rw[cell_of_block hby 4];simp
       clear hby;replace HB:=Lib.hid (Keeps.heap k1 HB.out (fun h=>h));replace k0:=k0.trans k1;clear k1 hs0 c0 c1 c2 c3 c4;refine(HN w1).mono ?_;rintro e w2 ⟨rfl,k2⟩;replace x0:=k2.cell x0;replace x1:=k2.cell x1;replace x2:=k2.cell x2;replace x3:=k2.cell x3;replace x4:=k2.cell x4;replace HB:=Lib.hid (Keeps.heap k2 HB.out (fun h=>h));replace k0:=k0.trans k2;clear k2;obtain⟨⟨r0,r1,r2⟩,⟨f0,f1,f2⟩,hBB⟩:=aK HB.out;go_wp2_with fail;exact bodyPost_ret (v:= .tuple #[I 81,.agg #[.int .u8 4,I 16,I 0]]) (by simp[results,Tryz.results83,go_sem,r0,r1,r2,f0,f1,f2,hBB]) rfl ⟨rfl,((k0.setCell (by simp) _).setCell (by simp) _).setCell (by simp) _⟩
      ·rw[if_neg h3];have d0x:decide ((32:Int)<(gacts.length:Int))=false:=decide_eq_false (by omega);have d1x:decide ((96:Int)<(gedges.length:Int))=false:=decide_eq_false (by omega);have d2x:decide ((16:Int)<(gins.length:Int))=false:=decide_eq_false (by omega);have d3x:decide ((16:Int)<(gouts.length:Int))=false:=decide_eq_false (by omega);clear h0 h1 h2 h3;go_enter Tryz.func83,Tryz.ntmps83;go_wp2_with fail;have hs0:(w.alloc (.cells #[.int .u8 0,I 0,I 0] 85)).heap.size=w.heap.size+1:=ay _ _;have k0:New w (w.alloc (.cells #[.int .u8 0,I 0,I 0] 85)):=(New.refl w).alloc _;have hbx:(w.alloc (.cells #[.int .u8 0,I 0,I 0] 85)).heap[w.heap.size]? =some (.cells #[.int .u8 0,I 0,I 0] 85 (0,0)):=heap_alloc_new w _;generalize(w.alloc (.cells #[.int .u8 0,I 0,I 0] 85))=w0 at k0 hbx hs0 ⊢;have HB:=Lib.hid hbx;clear hbx;have k1:New w0 (w0.alloc (.cells #[.string gname,.slice gaa gacts.length gac,.slice gea gedges.length gec,.slice gia gins.length gic,.slice goa gouts.length goc] 26)):=(New.refl w0).alloc _;have hby:(w0.alloc (.cells #[.string gname,.slice gaa gacts.length gac,.slice gea gedges.length gec,.slice gia gins.length gic,.slice goa gouts.length goc] 26)).heap[w0.heap.size]? =some (.cells #[.string gname,.slice gaa gacts.length gac,.slice gea gedges.length gec,.slice gia gins.length gic,.slice goa gouts.length goc] 26 (0,0)):=heap_alloc_new w0 _;rw[hs0] at hby;generalize(w0.alloc (.cells #[.string gname,.slice gaa gacts.length gac,.slice gea gedges.length gec,.slice gia gins.length gic,.slice goa gouts.length goc] 26))=w1 at k1 hby ⊢;have x0:w1.cell? ⟨w.heap.size+1,0,none⟩=some (.string gname):=by rw[cell_of_block hby 0];simp
       have x1:w1.cell? ⟨w.heap.size+1,1,none⟩=some (.slice gaa gacts.length gac):=by rw[cell_of_block hby 1];simp
       have x2:w1.cell? ⟨w.heap.size+1,2,none⟩=some (.slice gea gedges.length gec):=by rw[cell_of_block hby 2];simp
       have x3:w1.cell? ⟨w.heap.size+1,3,none⟩=some (.slice gia gins.length gic):=by rw[cell_of_block hby 3];simp
       have x4:w1.cell? ⟨w.heap.size+1,4,none⟩=some (.slice goa gouts.length goc):=by rw[cell_of_block hby 4];simp
       clear hby;replace HB:=Lib.hid (Keeps.heap k1 HB.out (fun h=>h));replace k0:=k0.trans k1;clear k1 hs0 c0 c1 c2 c3 c4;refine(HN w1).mono ?_;rintro e w2 ⟨rfl,k2⟩;replace x0:=k2.cell x0;replace x1:=k2.cell x1;replace x2:=k2.cell x2;replace x3:=k2.cell x3;replace x4:=k2.cell x4;replace HB:=Lib.hid (Keeps.heap k2 HB.out (fun h=>h));replace k0:=k0.trans k2;clear k2;obtain⟨⟨r0,r1,r2⟩,⟨f0,f1,f2⟩,hBB⟩:=aK HB.out;go_wp2_with fail;exact bodyPost_ret (v:= .tuple #[I 0,.agg #[.int .u8 0,I 0,I 0]]) (by simp[results,Tryz.results83,go_sem,r0,r1,r2,f0,f1,f2,hBB]) rfl ⟨rfl,((k0.setCell (by simp) _).setCell (by simp) _).setCell (by simp) _⟩
theorem oI (n:Nat):madeCells (Value.bool false).cells (n*1)=(List.replicate n (Value.bool false)).toArray:=by
 apply Array.ext
 ·simp[size_madeCells]
 ·intro i h1 h2;simp[madeCells,Value.cells,Nat.mod_one]
theorem lj {w:World} {ops:Array Oper} {o:Oper} {a:Act} {K:Act->World->Prop} {Q:Exit->Act->World->Prop} {E:Prop} {dec:Decidable (Region.wanted o (yielded ops a.tmps)=true)} (hgd:o.guard=none) (l c:Operand) (ho:o.op=Op.makeSlice 200 l c)
  (n:Nat) (hl:a.eval l=I n) (hc:a.eval c=I n) (hn:n<=1000)
  (h:K (a.put o.dst (.slice (some ⟨w.heap.size,0,none⟩) n n)) (w.alloc (.cells (List.replicate n (Value.bool false)).toArray 4))):
  @ite Prop (Region.wanted o (yielded ops a.tmps)=true) dec (Oper.wp Tryz.prog o a w K Q) E:=by
 have hw:Region.wanted o (yielded ops a.tmps)=true:=by simp[Region.wanted,hgd]
 rw[if_pos hw];obtain⟨i,hi,hz0,hz1,hz2⟩:=info_parts (show(Tryz.prog.info? 4).map (fun i=>(i.zero,i.size,i.bytes))=some (some (.bool false),1,1) by kernel_rfl);have hr:=run_make (P:=Tryz.prog) (w:=w) 200 4 i (.bool false) Tryz.underlying200 hi hz0 .i64 .i64 (n:Int) (n:Int) (by omega) (Int.le_refl _) (by rw[hz2];omega) (by omega);simp only[Int.toNat_natCast,hz1,oI] at hr;unfold Oper.wp execOp;simp only[ho,Sem.run_bind,Sem.run_pure,Result.andThen_ok,hl,hc,hr];exact h
theorem jy {w:World} {C:Nat} {a0 a1 a2:Value} (h:w.heap[C]? =some (.cells #[a0,a1,a2] 63 (0,0))):
  w.cell? ⟨C,0,none⟩=some a0∧w.cell? ⟨C,1,none⟩=some a1∧w.cell? ⟨C,2,none⟩=some a2∧C<w.heap.size:=by
 refine⟨?_,?_,?_,(Array.getElem?_eq_some_iff.1 h).1⟩;all_goals rw[cell_of_block h];rfl
theorem uq:(Tryz.prog.info? 200).map (fun i=>(i.zero,i.size,i.bytes))=some (some (.slice none 0 0),1,24):=by kernel_rfl
theorem dq {w:World} {a a':Option Addr} (h:eK w a a') {k:Nat} (hk:blk a' k):blk a k∨w.heap.size<=k:=by
 rcases h with rfl|⟨g,rfl,hg⟩
 ·exact .inl hk
 ·obtain⟨y,hy,rfl⟩:=hk;cases hy;exact .inr hg
theorem Chk.addI {w w1 w2:World} {B C M:Nat} {g:Gr} {ns:List ByteArray} {ia:Option Addr} {ic:Nat} {IL:List (Nat×List Bool)} {oa:Option Addr} {oc:Nat} {OL:List (Nat×List Bool)} (h:Chk w B C M g ns ia ic IL oa oc OL) (hB:B<=w.heap.size) {n R c':Nat} {a':Option Addr} (k1:New w w1) (hR:w1.heap[R]? =some (.cells (List.replicate n (Value.bool false)).toArray 4 (0,0))) (hRn:w.heap.size<=R)
  (hown:w2.ownsRow B 200 1 (.slice a' (IL.length+1) c') (IL.length+1) (IL.map e8++[.slice (some ⟨R,0,none⟩) n n])) (hk:Keeps (Go.Proofs.YtnedmonlofbahaaGreatDoor.blk ia) w1 w2) (hm:eK w1 ia a'):
  (w2.cell? ⟨C,6,none⟩=some (.slice ia IL.length ic)∧w2.frozen? ⟨C,6,none⟩=false∧C<w2.heap.size)∧Chk (w2.setCell ⟨C,6,none⟩ (.slice a' (IL.length+1) c')) B C M g ns a' c' (IL++[(R,List.replicate n false)]) oa oc OL∧KB B w (w2.setCell ⟨C,6,none⟩ (.slice a' (IL.length+1) c')):=by
 have h1:=h.new k1;have htag:∀i,Go.Proofs.YtnedmonlofbahaaGreatDoor.blk ia i->B<=i∧∃cur,w1.heap[i]? =some (.cells cur 200 (0,0)):=fun i hi=>⟨(an h1.gi.tab hi).1,be h1.gi.tab (bu hi)⟩
 have hnb:∀ {b:Nat} {cs:Array Value} {t:TypeId} {fr:Nat×Nat},w1.heap[b]? =some (.cells cs t fr)->t≠200->¬Go.Proofs.YtnedmonlofbahaaGreatDoor.blk ia b:=fun hb hne hx=>by
  obtain⟨_,cur,hc⟩:=htag _ hx;rw[hb] at hc;cases hc;exact hne rfl
 have hC2:=hk.heap h1.blk (hnb h1.blk (by decide));have hC3:=block_setCell (i:=6) hC2 (.slice a' (IL.length+1) c');have hks:Keeps (fun k=>k=C) w2 (w2.setCell ⟨C,6,none⟩ (.slice a' (IL.length+1) c')):=Keeps.setCell w2 _ _ rfl;have hnC:∀ {b:Nat} {cs:Array Value} {t:TypeId} {fr:Nat×Nat},w2.heap[b]? =some (.cells cs t fr)->t≠149->¬b=C:=by
  rintro b cs t fr hb hne rfl;rw[hC2] at hb;cases hb;exact hne rfl
 obtain⟨es,clock,hM⟩:=h1.nm.block;have hM2:=hk.heap hM (fun hx=>by
  obtain⟨_,cur,hc⟩:=htag _ hx;rw[hM] at hc;cases hc)
 have hmv:∀k,Go.Proofs.YtnedmonlofbahaaGreatDoor.blk a' k->Go.Proofs.YtnedmonlofbahaaGreatDoor.blk ia k∨w1.heap.size<=k:=fun k hb=>dq hm hb
 refine⟨⟨?_,unfrozen_of_block hC2 6,(Array.getElem?_eq_some_iff.1 hC2).1⟩,⟨?_,h.loC,h.loM,?_,?_,?_,?_,?_⟩,?_⟩
 ·rw[cell_of_block hC2 6];rfl
 ·rw[hC3];simp
 ·refine(h1.nm.keeps hk (fun hx=>?_)).keeps hks (fun hx=>?_)
  ·obtain⟨_,cur,hc⟩:=htag _ hx;rw[hM] at hc;cases hc
  ·subst hx;rw[hM2] at hC2;cases hC2
 ·refine⟨?_,fun r hr=>?_,fun r hr=>?_,?_⟩
  ·have h0:=hks.owns hown (fun i hi e=>by
    obtain⟨cur,hc⟩:=be hown hi;exact hnC hc (by decide) e)
   simpa[e8] using h0
  ·rcases List.mem_append.1 hr with hr|hr
   ·have h3:=hk.heap (h1.gi.row r hr) (hnb (h1.gi.row r hr) (by decide));exact hks.heap h3 (hnC h3 (by decide))
   ·rw[List.mem_singleton.1 hr];have h3:=hk.heap hR (hnb hR (by decide));have h4:=hks.heap h3 (hnC h3 (by decide));simpa using h4
  ·rcases List.mem_append.1 hr with hr|hr
   ·exact h.gi.lo r hr
   ·rw[List.mem_singleton.1 hr];exact Nat.le_trans hB hRn
  ·rw[List.map_append,List.nodup_append];refine⟨h.gi.nd,by simp,fun x hx y hy=>?_⟩;obtain⟨r,hr,rfl⟩:=List.mem_map.1 hx;obtain rfl:y=R:=by simpa using hy
   have:=(Array.getElem?_eq_some_iff.1 (h.gi.row r hr)).1;omega
 ·refine(h1.go.other hk (fun i hi=>?_) (fun r hr=>hnb (h1.go.row r hr) (by decide))).other hks (fun i hi=>?_) (fun r hr=>?_)
  ·intro hx;exact h.ta i hx hi
  ·obtain⟨cur,hc⟩:=be h1.go.tab (bu hi);have h3:=hk.heap hc (fun hx=>h.ta i hx hi);exact hnC h3 (by decide)
  ·have h3:=hk.heap (h1.go.row r hr) (hnb (h1.go.row r hr) (by decide));exact hnC h3 (by decide)
 ·intro k hk1 hk2;rcases hmv k hk1 with hx|hx
  ·exact h.ta k hx hk2
  ·have:=(an h.go.tab hk2).2;have:=k1.size;omega
 ·intro r hr r' hr';rcases List.mem_append.1 hr with hr|hr
  ·exact h.ro r hr r' hr'
  ·rw[List.mem_singleton.1 hr];have:=(Array.getElem?_eq_some_iff.1 (h.go.row r' hr')).1;simp only;omega
 ·refine((KXg.of_new k1).trans (Keeps.mono hk (fun i _ hi=>?_))).trans (KXg.set hC2 h.loC rfl _);obtain⟨h5,cur,h6⟩:=htag i hi;exact⟨h5,_,h6,rfl⟩
theorem Chk.addO {w w1 w2:World} {B C M:Nat} {g:Gr} {ns:List ByteArray} {ia:Option Addr} {ic:Nat} {IL:List (Nat×List Bool)} {oa:Option Addr} {oc:Nat} {OL:List (Nat×List Bool)} (h:Chk w B C M g ns ia ic IL oa oc OL) (hB:B<=w.heap.size) {n R c':Nat} {a':Option Addr} (k1:New w w1) (hR:w1.heap[R]? =some (.cells (List.replicate n (Value.bool false)).toArray 4 (0,0))) (hRn:w.heap.size<=R)
  (hown:w2.ownsRow B 200 1 (.slice a' (OL.length+1) c') (OL.length+1) (OL.map e8++[.slice (some ⟨R,0,none⟩) n n])) (hk:Keeps (Go.Proofs.YtnedmonlofbahaaGreatDoor.blk oa) w1 w2) (hm:eK w1 oa a'):
  (w2.cell? ⟨C,7,none⟩=some (.slice oa OL.length oc)∧w2.frozen? ⟨C,7,none⟩=false∧C<w2.heap.size)∧Chk (w2.setCell ⟨C,7,none⟩ (.slice a' (OL.length+1) c')) B C M g ns ia ic IL a' c' (OL++[(R,List.replicate n false)])∧KB B w (w2.setCell ⟨C,7,none⟩ (.slice a' (OL.length+1) c')):=by
 have h1:=h.new k1;have htag:∀i,Go.Proofs.YtnedmonlofbahaaGreatDoor.blk oa i->B<=i∧∃cur,w1.heap[i]? =some (.cells cur 200 (0,0)):=fun i hi=>⟨(an h1.go.tab hi).1,be h1.go.tab (bu hi)⟩
 have hnb:∀ {b:Nat} {cs:Array Value} {t:TypeId} {fr:Nat×Nat},w1.heap[b]? =some (.cells cs t fr)->t≠200->¬Go.Proofs.YtnedmonlofbahaaGreatDoor.blk oa b:=fun hb hne hx=>by
  obtain⟨_,cur,hc⟩:=htag _ hx;rw[hb] at hc;cases hc;exact hne rfl
 have hC2:=hk.heap h1.blk (hnb h1.blk (by decide));have hC3:=block_setCell (i:=7) hC2 (.slice a' (OL.length+1) c');have hks:Keeps (fun k=>k=C) w2 (w2.setCell ⟨C,7,none⟩ (.slice a' (OL.length+1) c')):=Keeps.setCell w2 _ _ rfl;have hnC:∀ {b:Nat} {cs:Array Value} {t:TypeId} {fr:Nat×Nat},w2.heap[b]? =some (.cells cs t fr)->t≠149->¬b=C:=by
  rintro b cs t fr hb hne rfl;rw[hC2] at hb;cases hb;exact hne rfl
 obtain⟨es,clock,hM⟩:=h1.nm.block;have hM2:=hk.heap hM (fun hx=>by
  obtain⟨_,cur,hc⟩:=htag _ hx;rw[hM] at hc;cases hc)
 have hmv:∀k,Go.Proofs.YtnedmonlofbahaaGreatDoor.blk a' k->Go.Proofs.YtnedmonlofbahaaGreatDoor.blk oa k∨w1.heap.size<=k:=fun k hb=>dq hm hb
 refine⟨⟨?_,unfrozen_of_block hC2 7,(Array.getElem?_eq_some_iff.1 hC2).1⟩,⟨?_,h.loC,h.loM,?_,?_,?_,?_,?_⟩,?_⟩
 ·rw[cell_of_block hC2 7];rfl
 ·rw[hC3];simp
 ·refine(h1.nm.keeps hk (fun hx=>?_)).keeps hks (fun hx=>?_)
  ·obtain⟨_,cur,hc⟩:=htag _ hx;rw[hM] at hc;cases hc
  ·subst hx;rw[hM2] at hC2;cases hC2
 ·refine(h1.gi.other hk (fun i hi=>?_) (fun r hr=>hnb (h1.gi.row r hr) (by decide))).other hks (fun i hi=>?_) (fun r hr=>?_)
  ·intro hx;exact h.ta i hi hx
  ·obtain⟨cur,hc⟩:=be h1.gi.tab (bu hi);have h3:=hk.heap hc (fun hx=>h.ta i hi hx);exact hnC h3 (by decide)
  ·have h3:=hk.heap (h1.gi.row r hr) (hnb (h1.gi.row r hr) (by decide));exact hnC h3 (by decide)
 ·refine⟨?_,fun r hr=>?_,fun r hr=>?_,?_⟩
  ·have h0:=hks.owns hown (fun i hi e=>by
    obtain⟨cur,hc⟩:=be hown hi;exact hnC hc (by decide) e)
   simpa[e8] using h0
  ·rcases List.mem_append.1 hr with hr|hr
   ·have h3:=hk.heap (h1.go.row r hr) (hnb (h1.go.row r hr) (by decide));exact hks.heap h3 (hnC h3 (by decide))
   ·rw[List.mem_singleton.1 hr];have h3:=hk.heap hR (hnb hR (by decide));have h4:=hks.heap h3 (hnC h3 (by decide));simpa using h4
  ·rcases List.mem_append.1 hr with hr|hr
   ·exact h.go.lo r hr
   ·rw[List.mem_singleton.1 hr];exact Nat.le_trans hB hRn
  ·rw[List.map_append,List.nodup_append];refine⟨h.go.nd,by simp,fun x hx y hy=>?_⟩;obtain⟨r,hr,rfl⟩:=List.mem_map.1 hx;obtain rfl:y=R:=by simpa using hy
   have:=(Array.getElem?_eq_some_iff.1 (h.go.row r hr)).1;omega
 ·intro k hk1 hk2;rcases hmv k hk2 with hx|hx
  ·exact h.ta k hk1 hx
  ·have:=(an h.gi.tab hk1).2;have:=k1.size;omega
 ·intro r hr r' hr';rcases List.mem_append.1 hr' with hr'|hr'
  ·exact h.ro r hr r' hr'
  ·rw[List.mem_singleton.1 hr'];have:=(Array.getElem?_eq_some_iff.1 (h.gi.row r hr)).1;simp only;omega
 ·refine((KXg.of_new k1).trans (Keeps.mono hk (fun i _ hi=>?_))).trans (KXg.set hC2 h.loC rfl _);obtain⟨h5,cur,h6⟩:=htag i hi;exact⟨h5,_,h6,rfl⟩
theorem Chk.other {S:Nat->Prop} {w w':World} {B C M:Nat} {g:Gr} {ns:List ByteArray} {ia:Option Addr} {ic:Nat} {IL:List (Nat×List Bool)} {oa:Option Addr} {oc:Nat} {OL:List (Nat×List Bool)} (h:Chk w B C M g ns ia ic IL oa oc OL)
  (k:Keeps S w w') (hS:∀i,S i->∃o,w.heap[i]? =some o∧rY o=false):Chk w' B C M g ns ia ic IL oa oc OL:=by
 have hn:∀ {i:Nat} {o:Obj},w.heap[i]? =some o->rY o=true->¬S i:=fun hi ho hs=>by
  obtain⟨o',h1,h2⟩:=hS _ hs;rw[hi] at h1;cases h1;rw[ho] at h2;cases h2
 obtain⟨es,clock,hM⟩:=h.nm.block;refine⟨k.heap h.blk (hn h.blk rfl),h.loC,h.loM,h.nm.keeps k (hn hM rfl),h.gi.other k (fun i hi=>?_) (fun r hr=>hn (h.gi.row r hr) rfl),h.go.other k (fun i hi=>?_) (fun r hr=>hn (h.go.row r hr) rfl),h.ta,h.ro⟩
 ·obtain⟨cur,hc⟩:=be h.gi.tab (bu hi);exact hn hc rfl
 ·obtain⟨cur,hc⟩:=be h.go.tab (bu hi);exact hn hc rfl
theorem KXg.setCell {pk:Obj->Bool} {B:Nat} {w w':World} (h:KXg pk B w w') {p:Addr} (hp:w.heap.size<=p.block) (v:Value):KXg pk B w (w'.setCell p v):=
 Keeps.trans h (Keeps.setCell (S:=fun k=>k=p.block) w' p v rfl) (fun i hi e=>by omega)
theorem Chk.spot {w:World} {B C M:Nat} {g:Gr} {ns:List ByteArray} {ia:Option Addr} {ic:Nat} {IL:List (Nat×List Bool)} {oa:Option Addr} {oc:Nat} {OL:List (Nat×List Bool)} {P:Nat} {cs:Array Value} (h:Chk w B C M g ns ia ic IL oa oc OL)
  (hb:w.heap[P]? =some (.cells cs 85 (0,0))) (u v x:Value):Chk (((w.setCell ⟨P,0,none⟩ u).setCell ⟨P,1,none⟩ v).setCell ⟨P,2,none⟩ x) B C M g ns ia ic IL oa oc OL:=
 h.other (S:=fun k=>k=P) (((Keeps.setCell (S:=fun k=>k=P) w _ _ rfl).trans (Keeps.setCell (S:=fun k=>k=P) _ _ _ rfl) (fun _ _ h=>h)).trans (Keeps.setCell (S:=fun k=>k=P) _ _ _ rfl) (fun _ _ h=>h)) (fun i hi=>⟨_,hi▸hb,rfl⟩)
theorem mb (g:Gr) (k:Nat) (x:GAct):dS g k x=(if cq (aq g k 0 0) x.name≠0 then cq (aq g k 0 0) x.name else(aj x.tag x.xs).1,0):=by
 unfold dS;split<;>rfl
theorem ly {L:List (Nat×List Bool)} {l:List GAct} {n:GAct->Nat} {k R m:Nat} (h:L.map (·.2)=(l.take k).map (fun x=>List.replicate (n x) false)) (hk:k<l.length) (hm:m=n l[k]):
  (L++[(R,List.replicate m false)]).map (·.2)=(l.take (k+1)).map (fun x=>List.replicate (n x) false):=by
 subst hm;rw[List.take_succ_eq_append_getElem hk,List.map_append,List.map_append,h];rfl
theorem mJ {L:List (Nat×List Bool)} {l:List GAct} {n:GAct->Nat} {k:Nat} (h:L.map (·.2)=(l.take k).map (fun x=>List.replicate (n x) false)):L.length<=k:=by
 have:=congrArg List.length h;rw[List.length_map,List.length_map,List.length_take] at this;omega
set_option maxRecDepth 100000 in
set_option maxHeartbeats 16000000 in
theorem mN (w0 w:World) (B C M:Nat) (g:Gr) (hg:GrAt w0 g) (hN:New w0 w) (hB:B=w0.heap.size) (hl:GLen g) (hal:g.acts.length<=32) (h:Chk w B C M g [] none 0 [] none 0 []):
  Calls Tryz.prog 84 #[.pointer (some ⟨C,0,none⟩)] w fun e w'=>cv (aL (dS g) 0 g.acts) 1 (fun w'=>∃ia ic IL oa oc OL,Chk w' B C M g (aq g g.acts.length 0 0) ia ic IL oa oc OL∧IL.map (·.2)=bQ g nIn (fun _ _=>false)∧OL.map (·.2)=bQ g bS (fun _ _=>false)) e w'∧KB B w w':=by
 obtain⟨⟨c0,c1,c2,c3,c4,-,-,-⟩,-,hCl⟩:=cH h.blk;obtain⟨it,hit,hz0,hz1,hz2⟩:=info_parts uq;have HAX:=Lib.hid hl.ax;have hla:=hl.a;clear hl;obtain⟨ok,hok⟩:∃ok:World->Prop,(fun w'=>∃ia ic IL oa oc OL,Chk w' B C M g (aq g g.acts.length 0 0) ia ic IL oa oc OL∧IL.map (·.2)=bQ g nIn (fun _ _=>false)∧OL.map (·.2)=bQ g bS (fun _ _=>false))=ok:=⟨_,rfl⟩
 rw[hok];have HOK:=Lib.hid hok;clear hok;obtain⟨ga,hga⟩:∃ga,g.aa=ga:=⟨_,rfl⟩
 rw[hga] at c1;have HGA:=Lib.hid hga;have HG:=Lib.hid hg;have HNw:=Lib.hid hN;have HBB:=Lib.hid hB;have hBw:B<=w.heap.size:=by rw[hB];exact hN.size
 clear hga hg hN hB;go_enter Tryz.func84,Tryz.ntmps84;go_wp2_with fail;have k0:New w (w.alloc (.cells #[.int .u8 0,I 0,I 0] 85)):=(New.refl w).alloc _;have hbx:(w.alloc (.cells #[.int .u8 0,I 0,I 0] 85)).heap[w.heap.size]? =some (.cells #[.int .u8 0,I 0,I 0] 85 (0,0)):=heap_alloc_new w _;generalize(w.alloc (.cells #[.int .u8 0,I 0,I 0] 85))=v0 at k0 hbx ⊢;clear c0 c1 c2 c3 c4;have hCh:=h.new k0;clear h hCl;go_loopw [15] (fun i wr=>∃(k:Nat) (ia:Option Addr) (ic:Nat) (IL:List (Nat×List Bool)) (oa:Option Addr) (oc:Nat) (OL:List (Nat×List Bool)),k<=g.acts.length∧i= .int .i64 k∧
   Hid (Chk wr B C M g (aq g k 0 0) ia ic IL oa oc OL∧IL.map (·.2)=(g.acts.take k).map (fun x=>List.replicate (nIn x) false)∧OL.map (·.2)=(g.acts.take k).map (fun x=>List.replicate (bS x) false)∧
    (∀j (hj:j<g.acts.length),j<k->(dS g j g.acts[j]).1=0)∧wr.heap[w.heap.size]? =some (.cells #[.int .u8 0,I 0,I 0] 85 (0,0))∧KB B w wr)) (fun i _=>g.acts.length-(intOf i).toNat)
 case atStart=>exact⟨0,none,0,[],none,0,[],by omega,rfl,Lib.hid ⟨hCh,by simp,by simp,fun j hj hjk=>by omega,hbx,KXg.of_new k0⟩⟩
 case round=>
  clear hCh hbx k0;obtain⟨k,ia,ic,IL,oa,oc,OL,hk,rfl,HR⟩:=hrel;obtain⟨hC,hI,hO,hE,hb,hKB⟩:=HR.out;have HI:=Lib.hid hI;have HO:=Lib.hid hO;have HE:=Lib.hid hE;have HB:=Lib.hid hb;clear hI hO hE hb HR;by_cases hk1:k<g.acts.length
  ·have hkI:(k:Int)<(g.acts.length:Int):=by omega
   have hkd:decide (k<g.acts.length)=true:=decide_eq_true hk1;have hGr:=HG.out.new (hKB.new HBB.out HNw.out);obtain⟨b,off,hab,q0,q1,q2⟩:=cM hGr.sa hk1;have hxs:=(HAX.out _ (List.getElem_mem hk1)).2;have hxn:=(HAX.out _ (List.getElem_mem hk1)).1;have hAE:Hid (dS g k g.acts[k]=_):=Lib.hid (mb g k g.acts[k]);have hfew:=gC g.acts[k].tag g.acts[k].xs;have hni:Hid (nIn g.acts[k]=(aj g.acts[k].tag g.acts[k].xs).2.1.length):=Lib.hid rfl;have hno:Hid (bS g.acts[k]=(aj g.acts[k].tag g.acts[k].xs).2.2.length):=Lib.hid rfl;have HOf:∀W,New w0 W->Calls Tryz.prog 125 #[.int .u8 g.acts[k].tag,.slice g.acts[k].a g.acts[k].xs.length g.acts[k].c] W (av W (aj g.acts[k].tag g.acts[k].xs)):=fun W n=>tU _ _ _ _ W ((HG.out.ax _ (List.getElem_mem hk1)).new n) hxn
   have hnl:(aq g k 0 0).length<=1000:=by have:=jG g k 0 0;omega
   have hns:Hid (aq g (k+1) 0 0=aq g k 0 0++[g.acts[k].name]):=Lib.hid (qI g hk1);have hIl:=mJ HI.out;have hOl:=mJ HO.out;have HIn:∀R:Nat,Hid (((IL++[(R,List.replicate (aj g.acts[k].tag g.acts[k].xs).2.1.length false)]:List (Nat×List Bool))).map (·.2)=(g.acts.take (k+1)).map (fun x=>List.replicate (nIn x) false)):=fun R=>Lib.hid (ly HI.out hk1 rfl)
   have HOn:∀R:Nat,Hid (((OL++[(R,List.replicate (aj g.acts[k].tag g.acts[k].xs).2.2.length false)]:List (Nat×List Bool))).map (·.2)=(g.acts.take (k+1)).map (fun x=>List.replicate (bS x) false)):=fun R=>Lib.hid (ly HO.out hk1 rfl)
   have HF:Hid ((dS g k g.acts[k]).1≠0->aL (dS g) 0 g.acts=some (k,dS g k g.acts[k])):=Lib.hid (fun h=>ff hk1 HE.out h);have HE2:Hid ((dS g k g.acts[k]).1=0->∀j (hj:j<g.acts.length),j<k+1->(dS g j g.acts[j]).1=0):=Lib.hid (fun h j hj hjk=>by
    by_cases e:j=k
    ·subst e;exact h
    ·exact HE.out j hj (by omega))
   have e:ga=some ⟨b,off,none⟩:=HGA.out.symm.trans hab;subst e;clear hab hGr HE HI HO HAX;generalize g.acts[k]=x at q0 q1 q2 hxs hxn hAE hfew hni hno HOf hns HIn HOn HF HE2;generalize aj x.tag x.xs=sh at hAE hfew hni hno HOf HIn HOn;generalize aq g k 0 0=ns at hC hAE hnl hns;have hNmC:=fun W (n:New wr W)=>me W B C M g ns ia ic IL oa oc OL x.name (hC.new n) hxs hnl
   generalize cq ns x.name=nm at hAE hNmC;clear hC;go_wp2_with fail;have kb:New wr (wr.alloc (.cells #[.string x.name,.int .u8 x.tag,.slice x.a x.xs.length x.c] 63)):=(New.refl wr).alloc _;have hby:(wr.alloc (.cells #[.string x.name,.int .u8 x.tag,.slice x.a x.xs.length x.c] 63)).heap[wr.heap.size]? =some (.cells #[.string x.name,.int .u8 x.tag,.slice x.a x.xs.length x.c] 63 (0,0)):=heap_alloc_new wr _;generalize(wr.alloc (.cells #[.string x.name,.int .u8 x.tag,.slice x.a x.xs.length x.c] 63))=w1 at kb hby ⊢;generalize wr.heap.size=Y at hby ⊢;replace HB:=Lib.hid (Keeps.heap kb HB.out (fun h=>h));replace hKB:=hKB.trans (KXg.of_new kb);refine(hNmC w1 kb).mono ?_;rintro e w2 ⟨rfl,hC2,k2⟩;have HY:=Lib.hid (k2.heap hby rfl);replace HB:=Lib.hid (k2.heap HB.out rfl);replace hKB:=hKB.trans k2.wide;clear hby k2 kb q0 q1 q2 hNmC;by_cases hnm:nm=0
   ·have e1:(nm==0)=true:=by simp[hnm]
    have e2:(nm != 0)=false:=by simp[hnm]
    have e3:decide (nm=0)=true:=decide_eq_true hnm;rw[if_pos hnm] at hC2;rw[hnm] at hAE;replace hAE:Hid (dS g k x=(sh.1,0)):=Lib.hid (by rw[hAE.out];simp);subst hnm;clear e1 e2 e3;obtain⟨y0,y1,y2,-⟩:=jy HY.out;have hOf:=HOf w2 (hKB.new HBB.out HNw.out);go_wp2_with fail;refine hOf.mono ?_;rintro e w3 ⟨ra,rac,rb,rbc,rfl,hra,hrb,_,k3⟩;replace HY:=Lib.hid (Keeps.heap k3 HY.out (fun h=>h));replace HB:=Lib.hid (Keeps.heap k3 HB.out (fun h=>h));replace hKB:=hKB.trans (KXg.of_new k3);have hC3:=hC2.new k3;clear hra hrb k3 hC2 y0 y1 y2 hOf HOf;obtain⟨n1,hn1⟩:∃n,sh.2.1.length=n:=⟨_,rfl⟩
    obtain⟨n2,hn2⟩:∃n,sh.2.2.length=n:=⟨_,rfl⟩
    rw[hn1] at HIn hfew;rw[hn2] at HOn hfew;rw[hn1,hn2];have hIl2:IL.length<=32:=by omega
    have hOl2:OL.length<=32:=by omega
    have hC:=hC3;clear hC3 hn1 hn2 hni hno;go_wp2_with fail;obtain⟨⟨-,-,-,-,-,-,c6,c7⟩,-,hCl⟩:=cH hC.blk;have hdr:New w3 w3.drew:=(New.refl w3).drew;have hS0:(fun w':World=>w'.cell? ⟨C,6,none⟩=some (.slice ia IL.length ic)∧C<w'.heap.size) w3.drew:=⟨hdr.cell c6,hCl⟩
    clear c6 c7;refine ar (fun w':World=>w'.cell? ⟨C,6,none⟩=some (.slice ia IL.length ic)∧C<w'.heap.size) [12] (by kernel_rfl) hS0 ?_;refine ae 0 hS0 ?_;refine ae 1 hS0 ?_;refine ae 2 hS0 ?_;refine ae 3 hS0 ?_;refine ae 4 hS0 ?_;refine ae 5 hS0 ?_;refine ae 6 hS0 ?_;refine ah 7 ?_;intro K hK;refine lj ?_ (.tmp 41) (.tmp 41) ?_ n1 ?_ ?_ (by omega) ?_
    ·rfl
    ·rfl
    ·rfl
    ·rfl
    have kA:New w3.drew (w3.drew.alloc (.cells (List.replicate n1 (Value.bool false)).toArray 4)):=(New.refl _).alloc _;have hRA:(w3.drew.alloc (.cells (List.replicate n1 (Value.bool false)).toArray 4)).heap[w3.drew.heap.size]? =some (.cells (List.replicate n1 (Value.bool false)).toArray 4 (0,0)):=heap_alloc_new _ _;have hRn:w3.heap.size<=w3.drew.heap.size:=hdr.size;generalize(w3.drew.alloc (.cells (List.replicate n1 (Value.bool false)).toArray 4))=wA at kA hRA hK ⊢;generalize w3.drew.heap.size=R at hRA hRn ⊢;have hSA:(fun w':World=>w'.cell? ⟨C,6,none⟩=some (.slice ia IL.length ic)∧C<w'.heap.size) wA:=⟨kA.cell hS0.1,Nat.lt_of_lt_of_le hS0.2 kA.size⟩
    replace kA:=hdr.trans kA;refine hK _ _ (fun _=>hSA) ?_;clear hK K;refine ah 8 ?_;intro K hK;(try simp only[Act.put,sLs])
    go_simp;have kB:New wA (wA.alloc (.cells #[.slice (some ⟨R,0,none⟩) n1 n1] 200)):=(New.refl wA).alloc _;have hSB:(fun w':World=>w'.cell? ⟨C,6,none⟩=some (.slice ia IL.length ic)∧C<w'.heap.size) (wA.alloc (.cells #[.slice (some ⟨R,0,none⟩) n1 n1] 200)):=⟨kB.cell hSA.1,Nat.lt_of_lt_of_le hSA.2 kB.size⟩
    have hlit:am (wA.alloc (.cells #[.slice (some ⟨R,0,none⟩) n1 n1] 200)) (some ⟨wA.heap.size,0,none⟩) [.slice (some ⟨R,0,none⟩) n1 n1]:=am.lit wA _ _;refine hK _ _ (fun _=>hSB) ?_;clear hK K;replace hRA:=Keeps.heap kB hRA (fun h=>h);replace kA:=kA.trans kB;generalize(wA.alloc (.cells #[.slice (some ⟨R,0,none⟩) n1 n1] 200))=wB at kA hRA hSB hlit ⊢;generalize wA.heap.size=Z at hlit ⊢;clear kB hSA hS0;refine ah 9 ?_;intro K hK;refine cR rfl _ _ 147 rfl B 200 it (.slice none 0 0) 1 24 Tryz.underlying147 hit hz0 hz1 hz2 rfl (by decide) ia IL.length ic (IL.map e8) rfl ((hC.new kA).gi.tab) (some ⟨Z,0,none⟩) 1 1 [.slice (some ⟨R,0,none⟩) n1 n1] rfl rfl hlit (by intro u hu;rw[List.mem_singleton.1 hu];rfl) (by unfold maxLen;omega) (by omega) (Nat.le_trans (Nat.le_trans hBw hKB.size) kA.size) ?_;intro ao' c' wc hown' hk' hmv;obtain⟨⟨hv0,hfz,hCl2⟩,hCn,hKn⟩:=hC.addI (Nat.le_trans hBw hKB.size) kA hRA hRn hown' hk' hmv;have HCn:=Lib.hid hCn;have hSd:(fun w':World=>w'.cell? ⟨C,6,none⟩=some (.slice ia IL.length ic)∧C<w'.heap.size) wc:=⟨hv0,hCl2⟩
    refine hK _ _ (fun _=>hSd) ?_;clear hK K hC hCn hown' hk' hmv kA hRA hRn hlit hSB;refine ae 10 hSd ?_;refine ae 11 hSd ?_;refine ah 12 ?_;intro K hK;(try simp only[Act.put,sLs])
    go_simp;refine hK _ _ (fun hx=>by cases hx) ?_;clear hK K;refine aB (by kernel_rfl) ?_;(try simp only[Act.put,sLs])
    replace HY:=Lib.hid (hKn.heap HY.out rfl);replace HB:=Lib.hid (hKn.heap HB.out rfl);replace hKB:=hKB.trans hKn;have hC:=HCn.out;generalize(wc.setCell ⟨C,6,none⟩ (.slice ao' (IL.length+1) c'))=w5 at HY HB hKB hC ⊢;clear HCn hKn hv0 hfz hSd hCl2 hdr hCl;(try simp only[Exit.then])
    replace HIn:=HIn R;generalize(IL++[(R,List.replicate n1 false)]:List (Nat×List Bool))=IL1 at HIn hC;generalize ao'=ia1 at hC;generalize c'=ic1 at hC;go_wp2_with fail;obtain⟨⟨-,-,-,-,-,-,c6,c7⟩,-,hCl⟩:=cH hC.blk;have hdr:New w5 w5.drew:=(New.refl w5).drew;have hS0:(fun w':World=>w'.cell? ⟨C,7,none⟩=some (.slice oa OL.length oc)∧C<w'.heap.size) w5.drew:=⟨hdr.cell c7,hCl⟩
    clear c6 c7;refine ar (fun w':World=>w'.cell? ⟨C,7,none⟩=some (.slice oa OL.length oc)∧C<w'.heap.size) [12] (by kernel_rfl) hS0 ?_;refine ae 0 hS0 ?_;refine ae 1 hS0 ?_;refine ae 2 hS0 ?_;refine ae 3 hS0 ?_;refine ae 4 hS0 ?_;refine ae 5 hS0 ?_;refine ae 6 hS0 ?_;refine ah 7 ?_;intro K hK;refine lj ?_ (.tmp 53) (.tmp 53) ?_ n2 ?_ ?_ (by omega) ?_
    ·rfl
    ·rfl
    ·rfl
    ·rfl
    have kA:New w5.drew (w5.drew.alloc (.cells (List.replicate n2 (Value.bool false)).toArray 4)):=(New.refl _).alloc _;have hRA:(w5.drew.alloc (.cells (List.replicate n2 (Value.bool false)).toArray 4)).heap[w5.drew.heap.size]? =some (.cells (List.replicate n2 (Value.bool false)).toArray 4 (0,0)):=heap_alloc_new _ _;have hRn:w5.heap.size<=w5.drew.heap.size:=hdr.size;generalize(w5.drew.alloc (.cells (List.replicate n2 (Value.bool false)).toArray 4))=wA at kA hRA hK ⊢;generalize w5.drew.heap.size=R at hRA hRn ⊢;have hSA:(fun w':World=>w'.cell? ⟨C,7,none⟩=some (.slice oa OL.length oc)∧C<w'.heap.size) wA:=⟨kA.cell hS0.1,Nat.lt_of_lt_of_le hS0.2 kA.size⟩
    replace kA:=hdr.trans kA;refine hK _ _ (fun _=>hSA) ?_;clear hK K;refine ah 8 ?_;intro K hK;(try simp only[Act.put,sLs])
    go_simp;have kB:New wA (wA.alloc (.cells #[.slice (some ⟨R,0,none⟩) n2 n2] 200)):=(New.refl wA).alloc _;have hSB:(fun w':World=>w'.cell? ⟨C,7,none⟩=some (.slice oa OL.length oc)∧C<w'.heap.size) (wA.alloc (.cells #[.slice (some ⟨R,0,none⟩) n2 n2] 200)):=⟨kB.cell hSA.1,Nat.lt_of_lt_of_le hSA.2 kB.size⟩
    have hlit:am (wA.alloc (.cells #[.slice (some ⟨R,0,none⟩) n2 n2] 200)) (some ⟨wA.heap.size,0,none⟩) [.slice (some ⟨R,0,none⟩) n2 n2]:=am.lit wA _ _;refine hK _ _ (fun _=>hSB) ?_;clear hK K;replace hRA:=Keeps.heap kB hRA (fun h=>h);replace kA:=kA.trans kB;generalize(wA.alloc (.cells #[.slice (some ⟨R,0,none⟩) n2 n2] 200))=wB at kA hRA hSB hlit ⊢;generalize wA.heap.size=Z at hlit ⊢;clear kB hSA hS0;refine ah 9 ?_;intro K hK;refine cR rfl _ _ 147 rfl B 200 it (.slice none 0 0) 1 24 Tryz.underlying147 hit hz0 hz1 hz2 rfl (by decide) oa OL.length oc (OL.map e8) rfl ((hC.new kA).go.tab) (some ⟨Z,0,none⟩) 1 1 [.slice (some ⟨R,0,none⟩) n2 n2] rfl rfl hlit (by intro u hu;rw[List.mem_singleton.1 hu];rfl) (by unfold maxLen;omega) (by omega) (Nat.le_trans (Nat.le_trans hBw hKB.size) kA.size) ?_;intro ao' c' wc hown' hk' hmv;obtain⟨⟨hv0,hfz,hCl2⟩,hCn,hKn⟩:=hC.addO (Nat.le_trans hBw hKB.size) kA hRA hRn hown' hk' hmv;have HCn:=Lib.hid hCn;have hSd:(fun w':World=>w'.cell? ⟨C,7,none⟩=some (.slice oa OL.length oc)∧C<w'.heap.size) wc:=⟨hv0,hCl2⟩
    refine hK _ _ (fun _=>hSd) ?_;clear hK K hC hCn hown' hk' hmv kA hRA hRn hlit hSB;refine ae 10 hSd ?_;refine ae 11 hSd ?_;refine ah 12 ?_;intro K hK;(try simp only[Act.put,sLs])
    go_simp;refine hK _ _ (fun hx=>by cases hx) ?_;clear hK K;refine aB (by kernel_rfl) ?_;(try simp only[Act.put,sLs])
    replace HY:=Lib.hid (hKn.heap HY.out rfl);replace HB:=Lib.hid (hKn.heap HB.out rfl);replace hKB:=hKB.trans hKn;have hC:=HCn.out;generalize(wc.setCell ⟨C,7,none⟩ (.slice ao' (OL.length+1) c'))=w7 at HY HB hKB hC ⊢;clear HCn hKn hv0 hfz hSd hCl2 hdr hCl;(try simp only[Exit.then])
    replace HOn:=HOn R;generalize(OL++[(R,List.replicate n2 false)]:List (Nat×List Bool))=OL1 at HOn hC;rw[<-hns.out] at hC;by_cases hs:sh.1=0
    ·have e2:(sh.1 != 0)=false:=by simp[hs]
     have HG2:=Lib.hid (HE2.out (by rw[hAE.out];exact hs));clear hs hAE HE2 HF;go_wp2_with fail;go_roundw
     case rel=>exact⟨k+1,_,_,_,_,_,_,by omega,by go_num,Lib.hid ⟨hC,HIn.out,HOn.out,HG2.out,HB.out,hKB⟩⟩
     case measure=>simp[intOf];omega
    ·have e2:(sh.1 != 0)=true:=by simp[hs]
     have HF2:=Lib.hid (HF.out (by rw[hAE.out];exact hs));clear hs HE2 HF hC;obtain⟨⟨r0,r1,r2⟩,⟨f0,f1,f2⟩,hBB⟩:=aK HB.out;go_wp2_with fail;exact bodyPost_ret (v:= .tuple #[I sh.1,.agg #[.int .u8 1,I k,I 0]]) (by simp[results,Tryz.results84,go_sem,r0,r1,r2,f0,f1,f2,hBB]) rfl ⟨by unfold cv;rw[HF2.out,hAE.out];rfl,((hKB.setCell (Nat.le_refl _) _).setCell (Nat.le_refl _) _).setCell (Nat.le_refl _) _⟩
   ·have e1:(nm==0)=false:=by simp[hnm]
    have e2:(nm != 0)=true:=by simp[hnm]
    have e3:decide (nm=0)=false:=decide_eq_false hnm;have hA2:Hid (dS g k x=(nm,0)):=Lib.hid (by rw[hAE.out,if_pos hnm]);have HF2:=Lib.hid (HF.out (by rw[hA2.out];exact hnm));clear hnm HE2 HF hC2 hAE;obtain⟨⟨r0,r1,r2⟩,⟨f0,f1,f2⟩,hBB⟩:=aK HB.out;go_wp2_with fail;exact bodyPost_ret (v:= .tuple #[I nm,.agg #[.int .u8 1,I k,I 0]]) (by simp[results,Tryz.results84,go_sem,r0,r1,r2,f0,f1,f2,hBB]) rfl ⟨by unfold cv;rw[HF2.out,hA2.out];rfl,((hKB.setCell (Nat.le_refl _) _).setCell (Nat.le_refl _) _).setCell (Nat.le_refl _) _⟩
  ·have hke:k=g.acts.length:=by omega
   have hkd:decide (k<g.acts.length)=false:=decide_eq_false hk1;rw[hke] at hC HE HI HO;have hLI:Hid (IL.map (·.2)=bQ g nIn (fun _ _=>false)):=Lib.hid (by rw[lY];have:=HI.out;rw[List.take_length] at this;exact this);have hLO:Hid (OL.map (·.2)=bQ g bS (fun _ _=>false)):=Lib.hid (by rw[lY];have:=HO.out;rw[List.take_length] at this;exact this);have HFN:Hid (aL (dS g) 0 g.acts=none):=Lib.hid (fO HE.out);have HOKK:Hid (∀W,Chk W B C M g (aq g g.acts.length 0 0) ia ic IL oa oc OL->ok W):=Lib.hid (fun W hW=>by
    rw[<-HOK.out];exact⟨ia,ic,IL,oa,oc,OL,hW,hLI.out,hLO.out⟩)
   clear HE HI HO hke hk hk1 hLI hLO HAX;obtain⟨⟨r0,r1,r2⟩,⟨f0,f1,f2⟩,hBB⟩:=aK HB.out;have HCS:=Lib.hid (fun u v x=>hC.spot HB.out u v x);clear hC;go_wp2_with fail;exact bodyPost_ret (v:= .tuple #[I 0,.agg #[.int .u8 0,I 0,I 0]]) (by simp[results,Tryz.results84,go_sem,r0,r1,r2,f0,f1,f2,hBB]) rfl ⟨by unfold cv;rw[HFN.out];exact⟨rfl,HOKK.out _ (HCS.out _ _ _)⟩,((hKB.setCell (Nat.le_refl _) _).setCell (Nat.le_refl _) _).setCell (Nat.le_refl _) _⟩
theorem dG {g:Gr} {n:GAct->Nat} {T:Int->Int->Bool} {L:List (Nat×List Bool)} (h:L.map (·.2)=bQ g n T) (hal:g.acts.length<=32) (hn:∀x,n x<=16):px L:=by
 refine⟨by have:=eF h;omega,fun r hr=>?_⟩;have h1:r.2∈bQ g n T:=by rw[<-h];exact List.mem_map_of_mem hr
 obtain⟨i,hi,he⟩:=List.getElem_of_mem h1;rw[iu] at hi;have h2:=gD g n T hi;rw[List.getElem?_eq_getElem (by rw[iu];exact hi),he] at h2;simp only[Option.some.injEq] at h2;rw[h2];simp only[List.length_map,List.length_range];have:=hn g.acts[i];omega
theorem mo (x:GAct):nIn x<=16:=(gC x.tag x.xs).1
theorem kx (x:GAct):bS x<=16:=(gC x.tag x.xs).2
theorem Chk.tookO {w w':World} {B C M:Nat} {g:Gr} {ns:List ByteArray} {ia:Option Addr} {ic:Nat} {IL:List (Nat×List Bool)} {oa:Option Addr} {oc:Nat} {OL:List (Nat×List Bool)} {x p:Int} {e:Ending} (h:Chk w B C M g ns ia ic IL oa oc OL) (ht:fZ w B oa oc OL x p e w'):Chk w' B C M g ns ia ic IL oa oc (cV OL x p):=by
 obtain⟨_,hG,_,hk⟩:=ht;have hn:∀ {i:Nat} {o:Obj},w.heap[i]? =some o->(∀cs fr,o≠ .cells cs 4 fr)->¬(∃r∈OL,r.1=i):=by
  rintro i o hi ho ⟨r,hr,rfl⟩;rw[h.go.row r hr] at hi;cases hi
  exact ho _ _ rfl
 obtain⟨es,clock,hM⟩:=h.nm.block;refine⟨?_,h.loC,h.loM,h.nm.keeps hk (hn hM (by intro cs fr e;cases e)),?_,hG,h.ta,?_⟩
 ·have:=hk.heap h.blk (hn h.blk (by intro cs fr e;simp at e));rw[jM];exact this
 ·refine h.gi.other hk (fun i hi=>?_) (fun r hr=>?_)
  ·obtain⟨cur,hc⟩:=be h.gi.tab (bu hi);exact hn hc (by intro cs fr e;simp at e)
  ·rintro⟨r',hr',e⟩;exact h.ro r hr r' hr' e.symm
 ·intro r hr r' hr';have hm:r'.1∈(cV OL x p).map (·.1):=List.mem_map_of_mem hr';rw[iM] at hm;obtain⟨y,hy,hye⟩:=List.mem_map.1 hm;rw[<-hye];exact h.ro r hr y hy
theorem Chk.tookI {w w':World} {B C M:Nat} {g:Gr} {ns:List ByteArray} {ia:Option Addr} {ic:Nat} {IL:List (Nat×List Bool)} {oa:Option Addr} {oc:Nat} {OL:List (Nat×List Bool)} {x p:Int} {e:Ending} (h:Chk w B C M g ns ia ic IL oa oc OL) (ht:fZ w B ia ic IL x p e w'):Chk w' B C M g ns ia ic (cV IL x p) oa oc OL:=by
 obtain⟨_,hG,_,hk⟩:=ht;have hn:∀ {i:Nat} {o:Obj},w.heap[i]? =some o->(∀cs fr,o≠ .cells cs 4 fr)->¬(∃r∈IL,r.1=i):=by
  rintro i o hi ho ⟨r,hr,rfl⟩;rw[h.gi.row r hr] at hi;cases hi
  exact ho _ _ rfl
 obtain⟨es,clock,hM⟩:=h.nm.block;refine⟨?_,h.loC,h.loM,h.nm.keeps hk (hn hM (by intro cs fr e;cases e)),hG,?_,h.ta,?_⟩
 ·have:=hk.heap h.blk (hn h.blk (by intro cs fr e;simp at e));rw[jM];exact this
 ·refine h.go.other hk (fun i hi=>?_) (fun r hr=>?_)
  ·obtain⟨cur,hc⟩:=be h.go.tab (bu hi);exact hn hc (by intro cs fr e;simp at e)
  ·rintro⟨r',hr',e⟩;exact h.ro r' hr' r hr e
 ·intro r hr r' hr';have hm:r.1∈(cV IL x p).map (·.1):=List.mem_map_of_mem hr;rw[iM] at hm;obtain⟨y,hy,hye⟩:=List.mem_map.1 hm;rw[<-hye];exact h.ro y hy r' hr'
theorem dY {w:World} {C:Nat} {a0 a1 a2 a3 a4:Value} (h:w.heap[C]? =some (.cells #[a0,a1,a2,a3,a4] 66 (0,0))):
  w.cell? ⟨C,0,none⟩=some a0∧w.cell? ⟨C,1,none⟩=some a1∧w.cell? ⟨C,2,none⟩=some a2∧w.cell? ⟨C,3,none⟩=some a3∧w.cell? ⟨C,4,none⟩=some a4∧C<w.heap.size:=by
 refine⟨?_,?_,?_,?_,?_,(Array.getElem?_eq_some_iff.1 h).1⟩;all_goals rw[cell_of_block h];rfl
theorem iH {g:Gr} {n:GAct->Nat} {T U:Int->Int->Bool} {L:List (Nat×List Bool)} {x p:Int} (h:L.map (·.2)=bQ g n T) (hE:bj L x p=0) (hU:∀a q,U a q=(T a q||decide (x=a∧p=q))):(cV L x p).map (·.2)=bQ g n U:=by
 rw[pt h hE];exact kZ (fun a q=>(hU a q).symm)
set_option maxRecDepth 100000 in
set_option maxHeartbeats 16000000 in
theorem ol (w0 w:World) (B C M:Nat) (g:Gr) (ns:List ByteArray) (ia:Option Addr) (ic:Nat) (IL:List (Nat×List Bool)) (oa:Option Addr) (oc:Nat) (OL:List (Nat×List Bool)) (hg:GrAt w0 g) (hN:New w0 w) (hB:B=w0.heap.size) (hl:GLen g) (hal:g.acts.length<=32)
  (h:Chk w B C M g ns ia ic IL oa oc OL) (hIL:IL.map (·.2)=bQ g nIn (fun _ _=>false)) (hOL:OL.map (·.2)=bQ g bS (fun _ _=>false)):
  Calls Tryz.prog 85 #[.pointer (some ⟨C,0,none⟩)] w fun e w'=>cv (aL (cB g) 0 g.edges) 2 (fun w'=>∃IL OL,Chk w' B C M g ns ia ic IL oa oc OL∧IL.map (·.2)=bQ g nIn (bG g g.edges.length 0)∧OL.map (·.2)=bQ g bS (aU g g.edges.length 0)) e w'∧KP B w w':=by
 obtain⟨⟨c0,c1,c2,c3,c4,-,-,-⟩,-,hCl⟩:=cH h.blk;have HEX:=Lib.hid hl.ex;have hle:=hl.e;clear hl;obtain⟨ok,hok⟩:∃ok:World->Prop,(fun w'=>∃IL OL,Chk w' B C M g ns ia ic IL oa oc OL∧IL.map (·.2)=bQ g nIn (bG g g.edges.length 0)∧OL.map (·.2)=bQ g bS (aU g g.edges.length 0))=ok:=⟨_,rfl⟩
 rw[hok];have HOK:=Lib.hid hok;clear hok;obtain⟨ga,hga⟩:∃ga,g.ea=ga:=⟨_,rfl⟩
 rw[hga] at c2;have HGA:=Lib.hid hga;have HG:=Lib.hid hg;have HNw:=Lib.hid hN;have HBB:=Lib.hid hB;have hBw:B<=w.heap.size:=by rw[hB];exact hN.size
 have HI0:Hid (IL.map (·.2)=bQ g nIn (bG g 0 0)):=Lib.hid (by rw[hIL];exact kZ (fun a p=>(qx g a p).symm));have HO0:Hid (OL.map (·.2)=bQ g bS (aU g 0 0)):=Lib.hid (by rw[hOL];exact kZ (fun a p=>(oR g a p).symm));clear hga hg hN hB hIL hOL;go_enter Tryz.func85,Tryz.ntmps85;go_wp2_with fail;have k0:New w (w.alloc (.cells #[.int .u8 0,I 0,I 0] 85)):=(New.refl w).alloc _;have hbx:(w.alloc (.cells #[.int .u8 0,I 0,I 0] 85)).heap[w.heap.size]? =some (.cells #[.int .u8 0,I 0,I 0] 85 (0,0)):=heap_alloc_new w _;generalize(w.alloc (.cells #[.int .u8 0,I 0,I 0] 85))=v0 at k0 hbx ⊢;clear c0 c1 c2 c3 c4;have hCh:=h.new k0;clear h hCl;go_loopw [14] (fun i wr=>∃(k:Nat) (IL OL:List (Nat×List Bool)),k<=g.edges.length∧i= .int .i64 k∧
   Hid (Chk wr B C M g ns ia ic IL oa oc OL∧IL.map (·.2)=bQ g nIn (bG g k 0)∧OL.map (·.2)=bQ g bS (aU g k 0)∧
    (∀j (hj:j<g.edges.length),j<k->(cB g j g.edges[j]).1=0)∧wr.heap[w.heap.size]? =some (.cells #[.int .u8 0,I 0,I 0] 85 (0,0))∧KP B w wr)) (fun i _=>g.edges.length-(intOf i).toNat)
 case atStart=>exact⟨0,IL,OL,by omega,rfl,Lib.hid ⟨hCh,HI0.out,HO0.out,fun j hj hjk=>by omega,hbx,KXg.of_new k0⟩⟩
 case round=>
  clear hCh hbx k0 HI0 HO0 IL OL;obtain⟨k,IL,OL,hk,rfl,HR⟩:=hrel;obtain⟨hC,hI,hO,hE,hb,hKB⟩:=HR.out;have HI:=Lib.hid hI;have HO:=Lib.hid hO;have HE:=Lib.hid hE;have HB:=Lib.hid hb;clear hI hO hE hb HR;by_cases hk1:k<g.edges.length
  ·have hkI:(k:Int)<(g.edges.length:Int):=by omega
   have hkd:decide (k<g.edges.length)=true:=decide_eq_true hk1;have hGr:=HG.out.new (hKB.new HBB.out HNw.out);obtain⟨b,off,hab,q0,q1,q2,q3,q4⟩:=cK hGr.se hk1;have hxn:=HEX.out _ (List.getElem_mem hk1);have HF:Hid ((cB g k g.edges[k]).1≠0->aL (cB g) 0 g.edges=some (k,cB g k g.edges[k])):=Lib.hid (fun h=>ff hk1 HE.out h);have HE2:Hid ((cB g k g.edges[k]).1=0->∀j (hj:j<g.edges.length),j<k+1->(cB g j g.edges[j]).1=0):=Lib.hid (fun h j hj hjk=>by
    by_cases e:j=k
    ·subst e;exact h
    ·exact HE.out j hj (by omega))
   have HOn:Hid (∀a q,aU g (k+1) 0 a q=(aU g k 0 a q||decide (g.edges[k].f=a∧g.edges[k].fp=q))):=Lib.hid (oQ g hk1);have HIn:Hid (∀a q,bG g (k+1) 0 a q=(bG g k 0 a q||decide (g.edges[k].t=a∧g.edges[k].tp=q))):=Lib.hid (qw g hk1);have e:ga=some ⟨b,off,none⟩:=HGA.out.symm.trans hab;subst e;clear hab hGr HE HEX;have hAE:Hid (cB g k g.edges[k]=_):=Lib.hid (by unfold cB;exact rfl);generalize g.edges[k]=x at q0 q1 q2 q3 q4 hxn HOn HIn HF HE2 hAE;rw[<-gZ HO.out,<-gZ HI.out] at hAE;have hgo:=dG HO.out hal kx;have hgi:=dG HI.out hal mo;have HO2:Hid (bj OL x.f x.fp=0->(cV OL x.f x.fp).map (·.2)=bQ g bS (aU g (k+1) 0)):=Lib.hid (fun h=>iH HO.out h HOn.out);have HI2:Hid (bj IL x.t x.tp=0->(cV IL x.t x.tp).map (·.2)=bQ g nIn (bG g (k+1) 0)):=Lib.hid (fun h=>iH HI.out h HIn.out);clear HO HI HOn HIn;go_wp2_with fail;have kb:New wr (wr.alloc (.cells #[I x.f,I x.fp,I x.t,I x.tp,.slice x.a x.xs.length x.c] 66)):=(New.refl wr).alloc _;have hby:(wr.alloc (.cells #[I x.f,I x.fp,I x.t,I x.tp,.slice x.a x.xs.length x.c] 66)).heap[wr.heap.size]? =some (.cells #[I x.f,I x.fp,I x.t,I x.tp,.slice x.a x.xs.length x.c] 66 (0,0)):=heap_alloc_new wr _;generalize(wr.alloc (.cells #[I x.f,I x.fp,I x.t,I x.tp,.slice x.a x.xs.length x.c] 66))=w1 at kb hby ⊢;generalize wr.heap.size=Y at hby ⊢;replace HB:=Lib.hid (Keeps.heap kb HB.out (fun h=>h));replace hKB:=hKB.trans (KXg.of_new kb);have hC1:=hC.new kb;have HY:=Lib.hid hby;clear hby kb q0 q1 q2 q3 q4 hC;obtain⟨⟨-,-,-,-,-,-,c6,c7⟩,-,hCl⟩:=cH hC1.blk;obtain⟨y0,y1,y2,y3,-,hYl⟩:=dY HY.out;have hdr:New w1 w1.drew:=(New.refl w1).drew;have hS0:(fun w':World=>w'.cell? ⟨C,7,none⟩=some (.slice oa OL.length oc)∧w'.cell? ⟨Y,0,none⟩=some (I x.f)∧w'.cell? ⟨Y,1,none⟩=some (I x.fp)∧C<w'.heap.size∧Y<w'.heap.size) w1.drew:=⟨hdr.cell c7,hdr.cell y0,hdr.cell y1,hCl,hYl⟩
   have hCd:=hC1.new hdr;clear c6 c7 y0 y1 y2 y3 hCl hYl hC1;refine ar (fun w':World=>w'.cell? ⟨C,7,none⟩=some (.slice oa OL.length oc)∧w'.cell? ⟨Y,0,none⟩=some (I x.f)∧w'.cell? ⟨Y,1,none⟩=some (I x.fp)∧C<w'.heap.size∧Y<w'.heap.size) [8,9] (by kernel_rfl) hS0 ?_;refine ae 0 hS0 ?_;refine ae 1 hS0 ?_;refine ae 2 hS0 ?_;refine ae 3 hS0 ?_;refine ae 4 hS0 ?_;refine ae 5 hS0 ?_;refine ae 6 hS0 ?_;refine ae 7 hS0 ?_;refine ah 8 ?_;intro K hK;(try simp only[Act.put,sLs])
   go_simp;refine(jv w1.drew B oa oc OL x.f x.fp hCd.go hgo).mono ?_;rintro e w2 hT;have hC2:=hCd.tookO hT;obtain⟨rfl,-,kT,-⟩:=hT;refine hK _ _ (fun hx=>by cases hx) ?_;clear hK K;replace kT:=(KXg.of_new hdr).trans kT;replace HY:=Lib.hid (kT.heap HY.out rfl);replace HB:=Lib.hid (kT.heap HB.out rfl);replace hKB:=hKB.trans kT;clear kT hdr hS0 hCd;refine ah 9 ?_;intro K hK;(try simp only[Act.put,sLs])
   go_simp;refine hK _ _ (fun hx=>by cases hx) ?_;clear hK K;refine aB (by kernel_rfl) ?_;(try simp only[Act.put,sLs])
   (try simp only[Exit.then])
   by_cases h1:bj OL x.f x.fp=0
   ·have d1:(bj OL x.f x.fp != 0)=false:=by simp[h1]
    have HO3:=Lib.hid (HO2.out h1);rw[if_neg (fun h=>h h1)] at hAE;generalize bj OL x.f x.fp=t1 at d1;generalize cV OL x.f x.fp=OL1 at HO3 hC2;clear HO2 h1 hgo;go_wp2_with fail;obtain⟨⟨-,-,-,-,-,-,c6,c7⟩,-,hCl⟩:=cH hC2.blk;obtain⟨y0,y1,y2,y3,-,hYl⟩:=dY HY.out;have hdr:New w2 w2.drew:=(New.refl w2).drew;have hS0:(fun w':World=>w'.cell? ⟨C,6,none⟩=some (.slice ia IL.length ic)∧w'.cell? ⟨Y,2,none⟩=some (I x.t)∧w'.cell? ⟨Y,3,none⟩=some (I x.tp)∧C<w'.heap.size∧Y<w'.heap.size) w2.drew:=⟨hdr.cell c6,hdr.cell y2,hdr.cell y3,hCl,hYl⟩
    have hCd:=hC2.new hdr;clear c6 c7 y0 y1 y2 y3 hCl hYl hC2;refine ar (fun w':World=>w'.cell? ⟨C,6,none⟩=some (.slice ia IL.length ic)∧w'.cell? ⟨Y,2,none⟩=some (I x.t)∧w'.cell? ⟨Y,3,none⟩=some (I x.tp)∧C<w'.heap.size∧Y<w'.heap.size) [8,9] (by kernel_rfl) hS0 ?_;refine ae 0 hS0 ?_;refine ae 1 hS0 ?_;refine ae 2 hS0 ?_;refine ae 3 hS0 ?_;refine ae 4 hS0 ?_;refine ae 5 hS0 ?_;refine ae 6 hS0 ?_;refine ae 7 hS0 ?_;refine ah 8 ?_;intro K hK;(try simp only[Act.put,sLs])
    go_simp;refine(jv w2.drew B ia ic IL x.t x.tp hCd.gi hgi).mono ?_;rintro e w3 hT;have hC3:=hCd.tookI hT;obtain⟨rfl,-,kT,-⟩:=hT;refine hK _ _ (fun hx=>by cases hx) ?_;clear hK K;replace kT:=(KXg.of_new hdr).trans kT;replace HY:=Lib.hid (kT.heap HY.out rfl);replace HB:=Lib.hid (kT.heap HB.out rfl);replace hKB:=hKB.trans kT;clear kT hdr hS0 hCd;refine ah 9 ?_;intro K hK;(try simp only[Act.put,sLs])
    go_simp;refine hK _ _ (fun hx=>by cases hx) ?_;clear hK K;refine aB (by kernel_rfl) ?_;(try simp only[Act.put,sLs])
    (try simp only[Exit.then])
    by_cases h2:bj IL x.t x.tp=0
    ·have d2:(bj IL x.t x.tp != 0)=false:=by simp[h2]
     have HI3:=Lib.hid (HI2.out h2);rw[if_neg (fun h=>h h2)] at hAE;generalize bj IL x.t x.tp=t2 at d2;generalize cV IL x.t x.tp=IL1 at HI3 hC3;clear HI2 h2 hgi;obtain⟨-,-,-,-,y4,hYl⟩:=dY HY.out;by_cases h3:256<x.xs.length
     ·have d3:decide ((256:Int)<(x.xs.length:Int))=true:=decide_eq_true (by omega);rw[if_pos h3] at hAE;have HF2:=Lib.hid (HF.out (by rw[hAE.out];decide));clear h3 HE2 HF hC3;obtain⟨⟨r0,r1,r2⟩,⟨f0,f1,f2⟩,hBB⟩:=aK HB.out;go_wp2_with fail;exact bodyPost_ret (v:= .tuple #[I 88,.agg #[.int .u8 2,I k,I 0]]) (by simp[results,Tryz.results85,go_sem,r0,r1,r2,f0,f1,f2,hBB]) rfl ⟨by unfold cv;rw[HF2.out,hAE.out];rfl,((hKB.setCell (Nat.le_refl _) _).setCell (Nat.le_refl _) _).setCell (Nat.le_refl _) _⟩
     ·have d3:decide ((256:Int)<(x.xs.length:Int))=false:=decide_eq_false (by omega);rw[if_neg h3] at hAE;have HG2:=Lib.hid (HE2.out (by rw[hAE.out]));clear h3 HE2 HF hAE;go_wp2_with fail;go_roundw
      case rel=>exact⟨k+1,_,_,by omega,by go_num,Lib.hid ⟨hC3,HI3.out,HO3.out,HG2.out,HB.out,hKB⟩⟩
      case measure=>simp[intOf];omega
    ·have d2:(bj IL x.t x.tp != 0)=true:=by simp[h2]
     rw[if_pos h2] at hAE;have HF2:=Lib.hid (HF.out (by rw[hAE.out];exact h2));generalize bj IL x.t x.tp=t2 at d2 hAE;clear h2 HE2 HF hC3 HI2;obtain⟨⟨r0,r1,r2⟩,⟨f0,f1,f2⟩,hBB⟩:=aK HB.out;go_wp2_with fail;exact bodyPost_ret (v:= .tuple #[I t2,.agg #[.int .u8 2,I k,I 2]]) (by simp[results,Tryz.results85,go_sem,r0,r1,r2,f0,f1,f2,hBB]) rfl ⟨by unfold cv;rw[HF2.out,hAE.out];rfl,((hKB.setCell (Nat.le_refl _) _).setCell (Nat.le_refl _) _).setCell (Nat.le_refl _) _⟩
   ·have d1:(bj OL x.f x.fp != 0)=true:=by simp[h1]
    rw[if_pos h1] at hAE;have HF2:=Lib.hid (HF.out (by rw[hAE.out];exact h1));generalize bj OL x.f x.fp=t1 at d1 hAE;clear h1 HE2 HF hC2 HO2;obtain⟨⟨r0,r1,r2⟩,⟨f0,f1,f2⟩,hBB⟩:=aK HB.out;go_wp2_with fail;exact bodyPost_ret (v:= .tuple #[I t1,.agg #[.int .u8 2,I k,I 1]]) (by simp[results,Tryz.results85,go_sem,r0,r1,r2,f0,f1,f2,hBB]) rfl ⟨by unfold cv;rw[HF2.out,hAE.out];rfl,((hKB.setCell (Nat.le_refl _) _).setCell (Nat.le_refl _) _).setCell (Nat.le_refl _) _⟩
  ·have hke:k=g.edges.length:=by omega
   have hkd:decide (k<g.edges.length)=false:=decide_eq_false hk1;rw[hke] at HE HI HO;have HFN:Hid (aL (cB g) 0 g.edges=none):=Lib.hid (fO HE.out);have HOKK:Hid (∀W,Chk W B C M g ns ia ic IL oa oc OL->ok W):=Lib.hid (fun W hW=>by
    rw[<-HOK.out];exact⟨IL,OL,hW,HI.out,HO.out⟩)
   clear HE HI HO hke hk hk1 HEX;obtain⟨⟨r0,r1,r2⟩,⟨f0,f1,f2⟩,hBB⟩:=aK HB.out;have HCS:=Lib.hid (fun u v x=>hC.spot HB.out u v x);clear hC;go_wp2_with fail;exact bodyPost_ret (v:= .tuple #[I 0,.agg #[.int .u8 0,I 0,I 0]]) (by simp[results,Tryz.results85,go_sem,r0,r1,r2,f0,f1,f2,hBB]) rfl ⟨by unfold cv;rw[HFN.out];exact⟨rfl,HOKK.out _ (HCS.out _ _ _)⟩,((hKB.setCell (Nat.le_refl _) _).setCell (Nat.le_refl _) _).setCell (Nat.le_refl _) _⟩
theorem kP {w:World} {C:Nat} {a0 a1 a2:Value} (h:w.heap[C]? =some (.cells #[a0,a1,a2] 82 (0,0))):
  w.cell? ⟨C,0,none⟩=some a0∧w.cell? ⟨C,1,none⟩=some a1∧w.cell? ⟨C,2,none⟩=some a2∧C<w.heap.size:=by
 refine⟨?_,?_,?_,(Array.getElem?_eq_some_iff.1 h).1⟩;all_goals rw[cell_of_block h];rfl
set_option maxRecDepth 100000 in
set_option maxHeartbeats 16000000 in
theorem mU (w0 w:World) (B C M:Nat) (g:Gr) (ia:Option Addr) (ic:Nat) (IL:List (Nat×List Bool)) (oa:Option Addr) (oc:Nat) (OL:List (Nat×List Bool)) (hg:GrAt w0 g) (hN:New w0 w) (hB:B=w0.heap.size) (hl:GLen g) (hal:g.acts.length<=32) (hpi:g.ins.length<=16) (hpo:g.outs.length<=16)
  (h:Chk w B C M g (aq g g.acts.length 0 0) ia ic IL oa oc OL) (hL:IL.map (·.2)=bQ g nIn (bG g g.edges.length 0)):
  Calls Tryz.prog 86 #[.pointer (some ⟨C,0,none⟩),.slice g.ia g.ins.length g.ic,.slice ia g.acts.length ic,.int .u8 3,I 2] w fun e w'=>cv (aL (inE g) 0 g.ins) 3 (fun w'=>∃L,Chk w' B C M g (aq g g.acts.length g.ins.length 0) ia ic L oa oc OL∧L.map (·.2)=bQ g nIn (bG g g.edges.length g.ins.length)) e w'∧KP B w w':=by
 have HEX:=Lib.hid hl.ix;have hle:=hl.i;clear hl;obtain⟨ok,hok⟩:∃ok:World->Prop,(fun w'=>∃L,Chk w' B C M g (aq g g.acts.length g.ins.length 0) ia ic L oa oc OL∧L.map (·.2)=bQ g nIn (bG g g.edges.length g.ins.length))=ok:=⟨_,rfl⟩
 rw[hok];have HOK:=Lib.hid hok;clear hok;obtain⟨ga,hga⟩:∃ga,g.ia=ga:=⟨_,rfl⟩
 rw[hga];have HGA:=Lib.hid hga;have HG:=Lib.hid hg;have HNw:=Lib.hid hN;have HBB:=Lib.hid hB;have HL0:=Lib.hid hL;have hBw:B<=w.heap.size:=by rw[hB];exact hN.size
 clear hga hg hN hB hL;go_enter Tryz.func86,Tryz.ntmps86;go_wp2_with fail;have k0:New w (w.alloc (.cells #[.int .u8 0,I 0,I 0] 85)):=(New.refl w).alloc _;have hbx:(w.alloc (.cells #[.int .u8 0,I 0,I 0] 85)).heap[w.heap.size]? =some (.cells #[.int .u8 0,I 0,I 0] 85 (0,0)):=heap_alloc_new w _;generalize(w.alloc (.cells #[.int .u8 0,I 0,I 0] 85))=v0 at k0 hbx ⊢;have hCh:=h.new k0;clear h;go_loopw [18] (fun i wr=>∃(k:Nat) (L:List (Nat×List Bool)),k<=g.ins.length∧i= .int .i64 k∧
   Hid (Chk wr B C M g (aq g g.acts.length k 0) ia ic L oa oc OL∧L.map (·.2)=bQ g nIn (bG g g.edges.length k)∧
    (∀j (hj:j<g.ins.length),j<k->(inE g j g.ins[j]).1=0)∧wr.heap[w.heap.size]? =some (.cells #[.int .u8 0,I 0,I 0] 85 (0,0))∧KP B w wr)) (fun i _=>g.ins.length-(intOf i).toNat)
 case atStart=>exact⟨0,IL,by omega,rfl,Lib.hid ⟨hCh,HL0.out,fun j hj hjk=>by omega,hbx,KXg.of_new k0⟩⟩
 case round=>
  clear hCh hbx k0 HL0 IL;obtain⟨k,IL,hk,rfl,HR⟩:=hrel;obtain⟨hC,hI,hE,hb,hKB⟩:=HR.out;have HI:=Lib.hid hI;have HE:=Lib.hid hE;have HB:=Lib.hid hb;clear hI hE hb HR;by_cases hk1:k<g.ins.length
  ·have hkI:(k:Int)<(g.ins.length:Int):=by omega
   have hkd:decide (k<g.ins.length)=true:=decide_eq_true hk1;have hGr:=HG.out.new (hKB.new HBB.out HNw.out);obtain⟨b,off,hab,q0,q1,q2⟩:=cP hGr.si hk1;have hxs:=HEX.out _ (List.getElem_mem hk1);have HF:Hid ((inE g k g.ins[k]).1≠0->aL (inE g) 0 g.ins=some (k,inE g k g.ins[k])):=Lib.hid (fun h=>ff hk1 HE.out h);have HE2:Hid ((inE g k g.ins[k]).1=0->∀j (hj:j<g.ins.length),j<k+1->(inE g j g.ins[j]).1=0):=Lib.hid (fun h j hj hjk=>by
    by_cases e:j=k
    ·subst e;exact h
    ·exact HE.out j hj (by omega))
   have HIn:=Lib.hid (uo g g.edges.length hk1);have hns:=Lib.hid (sO g g.acts.length hk1);have e:ga=some ⟨b,off,none⟩:=HGA.out.symm.trans hab;subst e;clear hab hGr HE HEX;have hAE:Hid (inE g k g.ins[k]=_):=Lib.hid (by unfold inE;exact rfl);have hnl:(aq g g.acts.length k 0).length<=1000:=by have:=jG g g.acts.length k 0;omega
   generalize g.ins[k]=x at q0 q1 q2 hxs HIn HF HE2 hAE hns;rw[<-gZ HI.out] at hAE;have hgi:=dG HI.out hal mo;have hLl:=Lib.hid (eF HI.out);have HI2:Hid (bj IL x.ac x.po=0->(cV IL x.ac x.po).map (·.2)=bQ g nIn (bG g g.edges.length (k+1))):=Lib.hid (fun h=>iH HI.out h HIn.out);clear HI HIn;generalize(aq g g.acts.length k 0)=ns at hC hAE hnl hns;have hNmC:=fun W (n:New wr W)=>me W B C M g ns ia ic IL oa oc OL x.name (hC.new n) hxs hnl
   generalize cq ns x.name=nm at hAE hNmC;clear hC;go_wp2_with fail;have kb:New wr (wr.alloc (.cells #[.string x.name,I x.ac,I x.po] 82)):=(New.refl wr).alloc _;have hby:(wr.alloc (.cells #[.string x.name,I x.ac,I x.po] 82)).heap[wr.heap.size]? =some (.cells #[.string x.name,I x.ac,I x.po] 82 (0,0)):=heap_alloc_new wr _;generalize(wr.alloc (.cells #[.string x.name,I x.ac,I x.po] 82))=w1 at kb hby ⊢;generalize wr.heap.size=Y at hby ⊢;replace HB:=Lib.hid (Keeps.heap kb HB.out (fun h=>h));replace hKB:=hKB.trans (KXg.of_new kb);refine(hNmC w1 kb).mono ?_;rintro e w2 ⟨rfl,hC2,k2⟩;have HY:=Lib.hid (k2.heap hby rfl);replace HB:=Lib.hid (k2.heap HB.out rfl);replace hKB:=hKB.trans k2;clear hby k2 kb q0 q1 q2 hNmC;by_cases hnm:nm=0
   ·rw[if_pos hnm] at hC2;rw[if_neg (fun h=>h hnm)] at hAE;subst hnm;have hT:Calls Tryz.prog 126 #[.slice ia g.acts.length ic,I x.ac,I x.po] w2 (fZ w2 B ia ic IL x.ac x.po):=by
     have:=jv w2 B ia ic IL x.ac x.po hC2.gi hgi;rw[hLl.out] at this;exact this
    obtain⟨y0,y1,y2,hYl⟩:=kP HY.out;go_wp2_with fail;refine hT.mono ?_;rintro e w3 hT3;have hC3:=hC2.tookI hT3;obtain⟨rfl,-,kT,-⟩:=hT3;replace HY:=Lib.hid (kT.heap HY.out rfl);replace HB:=Lib.hid (kT.heap HB.out rfl);replace hKB:=hKB.trans kT;clear kT hT hC2 y0 y1 y2 hYl hgi;by_cases h2:bj IL x.ac x.po=0
    ·have d2:(bj IL x.ac x.po != 0)=false:=by simp[h2]
     have HI3:=Lib.hid (HI2.out h2);have HG2:=Lib.hid (HE2.out (by rw[hAE.out];exact h2));rw[<-hns.out] at hC3;clear hAE HE2 HF h2 HI2 hLl;generalize bj IL x.ac x.po=t2 at d2;generalize cV IL x.ac x.po=IL1 at HI3 hC3;go_wp2_with fail;go_roundw
     case rel=>exact⟨k+1,_,by omega,by go_num,Lib.hid ⟨hC3,HI3.out,HG2.out,HB.out,hKB⟩⟩
     case measure=>simp[intOf];omega
    ·have d2:(bj IL x.ac x.po != 0)=true:=by simp[h2]
     have HF2:=Lib.hid (HF.out (by rw[hAE.out];exact h2));clear HE2 HF hC3 HI2 hLl;generalize bj IL x.ac x.po=t2 at d2 hAE;obtain⟨⟨r0,r1,r2⟩,⟨f0,f1,f2⟩,hBB⟩:=aK HB.out;go_wp2_with fail;exact bodyPost_ret (v:= .tuple #[I t2,.agg #[.int .u8 3,I k,I 2]]) (by simp[results,Tryz.results86,go_sem,r0,r1,r2,f0,f1,f2,hBB]) rfl ⟨by unfold cv;rw[HF2.out,hAE.out];rfl,((hKB.setCell (Nat.le_refl _) _).setCell (Nat.le_refl _) _).setCell (Nat.le_refl _) _⟩
   ·have e2:(nm != 0)=true:=by simp[hnm]
    rw[if_pos hnm] at hAE;have HF2:=Lib.hid (HF.out (by rw[hAE.out];exact hnm));clear hnm HE2 HF hC2 HI2 hLl hgi;obtain⟨⟨r0,r1,r2⟩,⟨f0,f1,f2⟩,hBB⟩:=aK HB.out;go_wp2_with fail;exact bodyPost_ret (v:= .tuple #[I nm,.agg #[.int .u8 3,I k,I 0]]) (by simp[results,Tryz.results86,go_sem,r0,r1,r2,f0,f1,f2,hBB]) rfl ⟨by unfold cv;rw[HF2.out,hAE.out];rfl,((hKB.setCell (Nat.le_refl _) _).setCell (Nat.le_refl _) _).setCell (Nat.le_refl _) _⟩
  ·have hke:k=g.ins.length:=by omega
   have hkd:decide (k<g.ins.length)=false:=decide_eq_false hk1;rw[hke] at hC HE HI;have HFN:Hid (aL (inE g) 0 g.ins=none):=Lib.hid (fO HE.out);have HOKK:Hid (∀W,Chk W B C M g (aq g g.acts.length g.ins.length 0) ia ic IL oa oc OL->ok W):=Lib.hid (fun W hW=>by
    rw[<-HOK.out];exact⟨IL,hW,HI.out⟩)
   clear HE HI hke hk hk1 HEX;obtain⟨⟨r0,r1,r2⟩,⟨f0,f1,f2⟩,hBB⟩:=aK HB.out;have HCS:=Lib.hid (fun u v x=>hC.spot HB.out u v x);clear hC;go_wp2_with fail;exact bodyPost_ret (v:= .tuple #[I 0,.agg #[.int .u8 0,I 0,I 0]]) (by simp[results,Tryz.results86,go_sem,r0,r1,r2,f0,f1,f2,hBB]) rfl ⟨by unfold cv;rw[HFN.out];exact⟨rfl,HOKK.out _ (HCS.out _ _ _)⟩,((hKB.setCell (Nat.le_refl _) _).setCell (Nat.le_refl _) _).setCell (Nat.le_refl _) _⟩
set_option maxRecDepth 100000 in
set_option maxHeartbeats 16000000 in
theorem mV (w0 w:World) (B C M:Nat) (g:Gr) (ia:Option Addr) (ic:Nat) (IL:List (Nat×List Bool)) (oa:Option Addr) (oc:Nat) (OL:List (Nat×List Bool)) (hg:GrAt w0 g) (hN:New w0 w) (hB:B=w0.heap.size) (hl:GLen g) (hal:g.acts.length<=32) (hpi:g.ins.length<=16) (hpo:g.outs.length<=16)
  (h:Chk w B C M g (aq g g.acts.length g.ins.length 0) ia ic IL oa oc OL) (hL:OL.map (·.2)=bQ g bS (aU g g.edges.length 0)):
  Calls Tryz.prog 86 #[.pointer (some ⟨C,0,none⟩),.slice g.oa g.outs.length g.oc,.slice oa g.acts.length oc,.int .u8 4,I 1] w fun e w'=>cv (aL (dW g) 0 g.outs) 4 (fun w'=>∃L,Chk w' B C M g (aq g g.acts.length g.ins.length g.outs.length) ia ic IL oa oc L∧L.map (·.2)=bQ g bS (aU g g.edges.length g.outs.length)) e w'∧KP B w w':=by
 have HEX:=Lib.hid hl.ox;have hle:=hl.o;clear hl;obtain⟨ok,hok⟩:∃ok:World->Prop,(fun w'=>∃L,Chk w' B C M g (aq g g.acts.length g.ins.length g.outs.length) ia ic IL oa oc L∧L.map (·.2)=bQ g bS (aU g g.edges.length g.outs.length))=ok:=⟨_,rfl⟩
 rw[hok];have HOK:=Lib.hid hok;clear hok;obtain⟨ga,hga⟩:∃ga,g.oa=ga:=⟨_,rfl⟩
 rw[hga];have HGA:=Lib.hid hga;have HG:=Lib.hid hg;have HNw:=Lib.hid hN;have HBB:=Lib.hid hB;have HL0:=Lib.hid hL;have hBw:B<=w.heap.size:=by rw[hB];exact hN.size
 clear hga hg hN hB hL;go_enter Tryz.func86,Tryz.ntmps86;go_wp2_with fail;have k0:New w (w.alloc (.cells #[.int .u8 0,I 0,I 0] 85)):=(New.refl w).alloc _;have hbx:(w.alloc (.cells #[.int .u8 0,I 0,I 0] 85)).heap[w.heap.size]? =some (.cells #[.int .u8 0,I 0,I 0] 85 (0,0)):=heap_alloc_new w _;generalize(w.alloc (.cells #[.int .u8 0,I 0,I 0] 85))=v0 at k0 hbx ⊢;have hCh:=h.new k0;clear h;go_loopw [18] (fun i wr=>∃(k:Nat) (L:List (Nat×List Bool)),k<=g.outs.length∧i= .int .i64 k∧
   Hid (Chk wr B C M g (aq g g.acts.length g.ins.length k) ia ic IL oa oc L∧L.map (·.2)=bQ g bS (aU g g.edges.length k)∧
    (∀j (hj:j<g.outs.length),j<k->(dW g j g.outs[j]).1=0)∧wr.heap[w.heap.size]? =some (.cells #[.int .u8 0,I 0,I 0] 85 (0,0))∧KP B w wr)) (fun i _=>g.outs.length-(intOf i).toNat)
 case atStart=>exact⟨0,OL,by omega,rfl,Lib.hid ⟨hCh,HL0.out,fun j hj hjk=>by omega,hbx,KXg.of_new k0⟩⟩
 case round=>
  clear hCh hbx k0 HL0 OL;obtain⟨k,OL,hk,rfl,HR⟩:=hrel;obtain⟨hC,hI,hE,hb,hKB⟩:=HR.out;have HI:=Lib.hid hI;have HE:=Lib.hid hE;have HB:=Lib.hid hb;clear hI hE hb HR;by_cases hk1:k<g.outs.length
  ·have hkI:(k:Int)<(g.outs.length:Int):=by omega
   have hkd:decide (k<g.outs.length)=true:=decide_eq_true hk1;have hGr:=HG.out.new (hKB.new HBB.out HNw.out);obtain⟨b,off,hab,q0,q1,q2⟩:=cP hGr.so hk1;have hxs:=HEX.out _ (List.getElem_mem hk1);have HF:Hid ((dW g k g.outs[k]).1≠0->aL (dW g) 0 g.outs=some (k,dW g k g.outs[k])):=Lib.hid (fun h=>ff hk1 HE.out h);have HE2:Hid ((dW g k g.outs[k]).1=0->∀j (hj:j<g.outs.length),j<k+1->(dW g j g.outs[j]).1=0):=Lib.hid (fun h j hj hjk=>by
    by_cases e:j=k
    ·subst e;exact h
    ·exact HE.out j hj (by omega))
   have HIn:=Lib.hid (qT g g.edges.length hk1);have hns:=Lib.hid (qJ g g.acts.length g.ins.length hk1);have e:ga=some ⟨b,off,none⟩:=HGA.out.symm.trans hab;subst e;clear hab hGr HE HEX;have hAE:Hid (dW g k g.outs[k]=_):=Lib.hid (by unfold dW;exact rfl);have hnl:(aq g g.acts.length g.ins.length k).length<=1000:=by have:=jG g g.acts.length g.ins.length k;omega
   generalize g.outs[k]=x at q0 q1 q2 hxs HIn HF HE2 hAE hns;rw[<-gZ HI.out] at hAE;have hgi:=dG HI.out hal kx;have hLl:=Lib.hid (eF HI.out);have HI2:Hid (bj OL x.ac x.po=0->(cV OL x.ac x.po).map (·.2)=bQ g bS (aU g g.edges.length (k+1))):=Lib.hid (fun h=>iH HI.out h HIn.out);clear HI HIn;generalize(aq g g.acts.length g.ins.length k)=ns at hC hAE hnl hns;have hNmC:=fun W (n:New wr W)=>me W B C M g ns ia ic IL oa oc OL x.name (hC.new n) hxs hnl
   generalize cq ns x.name=nm at hAE hNmC;clear hC;go_wp2_with fail;have kb:New wr (wr.alloc (.cells #[.string x.name,I x.ac,I x.po] 82)):=(New.refl wr).alloc _;have hby:(wr.alloc (.cells #[.string x.name,I x.ac,I x.po] 82)).heap[wr.heap.size]? =some (.cells #[.string x.name,I x.ac,I x.po] 82 (0,0)):=heap_alloc_new wr _;generalize(wr.alloc (.cells #[.string x.name,I x.ac,I x.po] 82))=w1 at kb hby ⊢;generalize wr.heap.size=Y at hby ⊢;replace HB:=Lib.hid (Keeps.heap kb HB.out (fun h=>h));replace hKB:=hKB.trans (KXg.of_new kb);refine(hNmC w1 kb).mono ?_;rintro e w2 ⟨rfl,hC2,k2⟩;have HY:=Lib.hid (k2.heap hby rfl);replace HB:=Lib.hid (k2.heap HB.out rfl);replace hKB:=hKB.trans k2;clear hby k2 kb q0 q1 q2 hNmC;by_cases hnm:nm=0
   ·rw[if_pos hnm] at hC2;rw[if_neg (fun h=>h hnm)] at hAE;subst hnm;have hT:Calls Tryz.prog 126 #[.slice oa g.acts.length oc,I x.ac,I x.po] w2 (fZ w2 B oa oc OL x.ac x.po):=by
     have:=jv w2 B oa oc OL x.ac x.po hC2.go hgi;rw[hLl.out] at this;exact this
    obtain⟨y0,y1,y2,hYl⟩:=kP HY.out;go_wp2_with fail;refine hT.mono ?_;rintro e w3 hT3;have hC3:=hC2.tookO hT3;obtain⟨rfl,-,kT,-⟩:=hT3;replace HY:=Lib.hid (kT.heap HY.out rfl);replace HB:=Lib.hid (kT.heap HB.out rfl);replace hKB:=hKB.trans kT;clear kT hT hC2 y0 y1 y2 hYl hgi;by_cases h2:bj OL x.ac x.po=0
    ·have d2:(bj OL x.ac x.po != 0)=false:=by simp[h2]
     have HI3:=Lib.hid (HI2.out h2);have HG2:=Lib.hid (HE2.out (by rw[hAE.out];exact h2));rw[<-hns.out] at hC3;clear hAE HE2 HF h2 HI2 hLl;generalize bj OL x.ac x.po=t2 at d2;generalize cV OL x.ac x.po=IL1 at HI3 hC3;go_wp2_with fail;go_roundw
     case rel=>exact⟨k+1,_,by omega,by go_num,Lib.hid ⟨hC3,HI3.out,HG2.out,HB.out,hKB⟩⟩
     case measure=>simp[intOf];omega
    ·have d2:(bj OL x.ac x.po != 0)=true:=by simp[h2]
     have HF2:=Lib.hid (HF.out (by rw[hAE.out];exact h2));clear HE2 HF hC3 HI2 hLl;generalize bj OL x.ac x.po=t2 at d2 hAE;obtain⟨⟨r0,r1,r2⟩,⟨f0,f1,f2⟩,hBB⟩:=aK HB.out;go_wp2_with fail;exact bodyPost_ret (v:= .tuple #[I t2,.agg #[.int .u8 4,I k,I 1]]) (by simp[results,Tryz.results86,go_sem,r0,r1,r2,f0,f1,f2,hBB]) rfl ⟨by unfold cv;rw[HF2.out,hAE.out];rfl,((hKB.setCell (Nat.le_refl _) _).setCell (Nat.le_refl _) _).setCell (Nat.le_refl _) _⟩
   ·have e2:(nm != 0)=true:=by simp[hnm]
    rw[if_pos hnm] at hAE;have HF2:=Lib.hid (HF.out (by rw[hAE.out];exact hnm));clear hnm HE2 HF hC2 HI2 hLl hgi;obtain⟨⟨r0,r1,r2⟩,⟨f0,f1,f2⟩,hBB⟩:=aK HB.out;go_wp2_with fail;exact bodyPost_ret (v:= .tuple #[I nm,.agg #[.int .u8 4,I k,I 0]]) (by simp[results,Tryz.results86,go_sem,r0,r1,r2,f0,f1,f2,hBB]) rfl ⟨by unfold cv;rw[HF2.out,hAE.out];rfl,((hKB.setCell (Nat.le_refl _) _).setCell (Nat.le_refl _) _).setCell (Nat.le_refl _) _⟩
  ·have hke:k=g.outs.length:=by omega
   have hkd:decide (k<g.outs.length)=false:=decide_eq_false hk1;rw[hke] at hC HE HI;have HFN:Hid (aL (dW g) 0 g.outs=none):=Lib.hid (fO HE.out);have HOKK:Hid (∀W,Chk W B C M g (aq g g.acts.length g.ins.length g.outs.length) ia ic IL oa oc OL->ok W):=Lib.hid (fun W hW=>by
    rw[<-HOK.out];exact⟨OL,hW,HI.out⟩)
   clear HE HI hke hk hk1 HEX;obtain⟨⟨r0,r1,r2⟩,⟨f0,f1,f2⟩,hBB⟩:=aK HB.out;have HCS:=Lib.hid (fun u v x=>hC.spot HB.out u v x);clear hC;go_wp2_with fail;exact bodyPost_ret (v:= .tuple #[I 0,.agg #[.int .u8 0,I 0,I 0]]) (by simp[results,Tryz.results86,go_sem,r0,r1,r2,f0,f1,f2,hBB]) rfl ⟨by unfold cv;rw[HFN.out];exact⟨rfl,HOKK.out _ (HCS.out _ _ _)⟩,((hKB.setCell (Nat.le_refl _) _).setCell (Nat.le_refl _) _).setCell (Nat.le_refl _) _⟩
end Go.Proofs.YtnedmonlofbahaaGreatDoor
