/-
  'SourcePrints': the law returns true at every input; what it is handed reads afterwards as before; the variables of the library that it reads hold what the program's text lays.
-/
import Derived.Test.YtnedmonlofbahaaGreatDoorSrcT
import Derived.Test.YtnedmonlofbahaaGreatDoorBsB
import Derived.Test.YtnedmonlofbahaaGreatDoorLxB
import Derived.Test.YtnedmonlofbahaaGreatDoorSwD
import Derived.Test.YtnedmonlofbahaaGreatDoorGwI
import Derived.Test.YtnedmonlofbahaaGreatDoorHw
import Derived.Test.YtnedmonlofbahaaGreatDoorRw
import Derived.Test.YtnedmonlofbahaaGreatDoorPwB
import Derived.Test.YtnedmonlofbahaaGreatDoorSx
namespace Go.Proofs.YtnedmonlofbahaaGreatDoor.sourcePrints
open Go Go.RowKit Go.Joins Go.ChangeShapes Go.WideShapes Go.ChangeAt
open Go.ChangeMaps (open_string shut_string)
set_option linter.all false
set_option maxRecDepth 100000 in
set_option maxHeartbeats 4000000 in
theorem rsprint_bad (w:World) (g:Gr) (hg:GrAt w g) (hl:GLen g) (h:(aX g).1≠0):
  Calls Tryz.prog 19 #[g.v] w fun e w'=>e= .returned (.tuple #[.string ⟨#[]⟩,I (aX g).1])∧New w w':=by
 have n1:New w (w.alloc (.cells g.cs 26)):=(New.refl w).alloc _;have hd:=rh (w.alloc (.cells g.cs 26)) g (hg.new n1) hl h;obtain⟨c,hc⟩:∃c,(aX g).1=c:=⟨_,rfl⟩
 rw[hc] at hd h ⊢;have hc1:(c != 0)=true:=by simpa using h
 have N1:=Lib.hid n1;simp only[Gr.v,Gr.cs] at hd ⊢;clear n1 hg hl hc h;go_enter Tryz.func19,Tryz.ntmps19;go_wp2_with fail;refine hd.mono ?_;rintro e w1 ⟨rfl,n2⟩;have N2:=Lib.hid (((N1.out.trans n2).alloc (.cells #[.string ⟨#[]⟩,.slice none 0 0] 52)));clear hd n2;go_wp2_with fail;exact bodyPost_ret (v:= .tuple #[.string ⟨#[]⟩,I c]) (by simp[results,Tryz.results19,go_sem]) rfl ⟨rfl,N2.out⟩
set_option maxRecDepth 100000 in
set_option maxHeartbeats 4000000 in
theorem rsprint_ok (w:World) (g:Gr) (hg:GrAt w g) (hl:GLen g) (hw:∀x∈g.acts,0<=x.tag∧x.tag<=255) (h:(aX g).1=0) (hn:GNum g):
  Calls Tryz.prog 19 #[g.v] w fun e w'=>e= .returned (.tuple #[.string ⟨(bY (da g)).toArray⟩,I 0])∧New w w':=by
 have hf:=(jB h).1;have n1:New w (w.alloc (.cells g.cs 26)):=(New.refl w).alloc _;have hd:=oY (w.alloc (.cells g.cs 26)) g (hg.new n1) hl hw h;have hp:=kQ hf hn;have hB:=fun(s:Sk) (e:s.bare=da g)=>lC e hf hn
 have N1:=Lib.hid n1;have HP:=Lib.hid hp;have HB:=Lib.hid hB;simp only[Gr.v,Gr.cs] at hd ⊢;clear n1 hg hp hB hf hn h hl hw;go_enter Tryz.func19,Tryz.ntmps19;go_wp2_with fail;refine hd.mono ?_;rintro e w1 ⟨s,rfl,hown,hs,n2⟩;have n3:New w1 (w1.alloc (.cells s.cs 52)):=(New.refl w1).alloc _;have hpr:=o7 (w1.alloc (.cells s.cs 52)) s (hown.at.new n3) (HB.out s hs);rw[<-jT,hs,HP.out] at hpr;have N2:=Lib.hid ((N1.out.trans n2).trans n3);simp only[Sk.v,Sk.cs] at hpr ⊢;clear hd n2 n3 hown hs;go_wp2_with fail;refine hpr.mono ?_;rintro e w2 ⟨rfl,n4⟩;have N3:=Lib.hid (N2.out.trans n4);clear hpr n4;go_wp2_with fail;exact bodyPost_ret (v:= .tuple #[.string ⟨(bY (da g)).toArray⟩,I 0]) (by simp[results,Tryz.results19,go_sem]) rfl ⟨rfl,N3.out⟩
theorem print_both (w0:World) (he:EnvS w0) (g:Gr) (hl:GLen g) (hn:GNum g) (ht:∀x∈g.acts,0<=x.tag∧x.tag<=255):∃(T:ByteArray) (ev:Value) (c:Int),
  (∀W q,New w0 W->GrAt W q->q.bare=g.bare->Calls Tryz.prog 18 #[q.v] W fun e w'=>e= .returned (.tuple #[.string T,ev])∧New W w')∧
  (∀W,New w0 W->GrAt W g->Calls Tryz.prog 19 #[g.v] W fun e w'=>e= .returned (.tuple #[.string T,I c])∧New W w')∧
  (∀W,New w0 W->Calls Tryz.prog 20 #[ev] W fun e w'=>e= .returned (.tuple #[I c,.bool true])∧New W w'):=by
 by_cases h0:(aX g).1=0
 ·refine⟨⟨(bY (da g)).toArray⟩,.nilIface,0,fun W q hk hq hb=>?_,fun W _ hq=>rsprint_ok W g hq hl ht h0 hn,fun W _=>oN W⟩;rw[<-lB hb];exact l0 W q (he.env.new hk) hq (by rw[gR hb];exact h0) (hn.same hb.symm)
 ·refine⟨⟨#[]⟩,.iface 31 (I (aX g).1),(aX g).1,fun W q hk hq hb=>?_,fun W _ hq=>rsprint_bad W g hq hl h0,fun W hk=>oM W _ h0 (he.et.new hk)⟩;have:=pj W q hq (hl.bare hb) (rD ht hb) (by rw[gR hb];exact h0);rw[gR hb] at this;exact this
set_option maxRecDepth 100000 in
set_option maxHeartbeats 4000000 in
theorem walk (w:World) (he:EnvS w) (g0:Gr) (hg0:GrAt w g0) (hl0:GLen g0) (hw0:GWf g0) (hr0:GRoom g0):
  Calls Tryz.prog 4 #[g0.v] w fun e w'=>e= .returned (.bool true)∧New w w':=by
 have HHV:=Lib.hid (fun W (k:New w W)=>qv W g0 (hg0.new k) hr0);have HN0:GNum g0:=⟨hw0.ax,fun x hx=>⟨(hw0.en x hx).2.1,(hw0.en x hx).2.2.2⟩,hw0.ex,fun x hx=>(hw0.ix x hx).2,fun x hx=>(hw0.ox x hx).2⟩
 have HE:=Lib.hid he;obtain⟨T,ev,c,hp0,hp1,hp2⟩:=print_both w he g0 hl0 HN0 hw0.tag;have HP0:=Lib.hid hp0;have HP1:=Lib.hid (fun W (k:New w W)=>hp1 W k (hg0.new k));have HP2:=Lib.hid hp2;have hcc:(c==c)=true:=by simp
 have htt:(T.toList==T.toList)=true:=by simp
 clear he hw0 hr0 hp0 hp1 hp2;simp only[Gr.v,Gr.cs] at HHV HP1 ⊢;go_enter Tryz.func4,Tryz.ntmps4;have na:New w (w.alloc (.cells #[.string g0.name,.slice g0.aa g0.acts.length g0.ac,.slice g0.ea g0.edges.length g0.ec,.slice g0.ia g0.ins.length g0.ic,.slice g0.oa g0.outs.length g0.oc] 26)):=(New.refl w).alloc _;have ha:(w.alloc (.cells #[.string g0.name,.slice g0.aa g0.acts.length g0.ac,.slice g0.ea g0.edges.length g0.ec,.slice g0.ia g0.ins.length g0.ic,.slice g0.oa g0.outs.length g0.oc] 26)).heap[w.heap.size]? =some (.cells #[.string g0.name,.slice g0.aa g0.acts.length g0.ac,.slice g0.ea g0.edges.length g0.ec,.slice g0.ia g0.ins.length g0.ic,.slice g0.oa g0.outs.length g0.oc] 26 (0,0)):=heap_alloc_new w _;go_wp2_with fail;generalize(w.alloc (.cells #[.string g0.name,.slice g0.aa g0.acts.length g0.ac,.slice g0.ea g0.edges.length g0.ec,.slice g0.ia g0.ins.length g0.ic,.slice g0.oa g0.outs.length g0.oc] 26))=wa at na ha ⊢;have HB:=Lib.hid ha;clear ha;refine(HHV.out wa na).mono ?_;rintro e w1 ⟨he,k1⟩;have hN1:=na.trans k1;rcases he with rfl|⟨rfl,hf⟩
 ·go_wp2_with fail;(try go_ret)
  exact⟨rfl,hN1⟩
 have HB1:=Lib.hid (Keeps.heap k1 HB.out (fun h=>h));clear HB HHV na k1;obtain⟨x0,x1,x2,x3,x4,hXl⟩:=aw HB1.out;go_wp2_with fail;have hLG:=lr w1 g0 (hg0.new hN1) hf;simp only[Gr.v,Gr.cs] at hLG;refine hLG.mono ?_;intro e w2 hL;obtain⟨q,rfl,hq,k2⟩:=hL.lended;have kz:New w2 (w2.alloc (.cells #[.string q.name,.slice q.aa q.acts.length q.ac,.slice q.ea q.edges.length q.ec,.slice q.ia q.ins.length q.ic,.slice q.oa q.outs.length q.oc] 26)):=(New.refl w2).alloc _;have hz:(w2.alloc (.cells #[.string q.name,.slice q.aa q.acts.length q.ac,.slice q.ea q.edges.length q.ec,.slice q.ia q.ins.length q.ic,.slice q.oa q.outs.length q.oc] 26)).heap[w2.heap.size]? =some (.cells #[.string q.name,.slice q.aa q.acts.length q.ac,.slice q.ea q.edges.length q.ec,.slice q.ia q.ins.length q.ic,.slice q.oa q.outs.length q.oc] 26 (0,0)):=heap_alloc_new w2 _;have hN2:=(hN1.trans k2).trans kz;have hpr:=HP0.out (w2.alloc (.cells #[.string q.name,.slice q.aa q.acts.length q.ac,.slice q.ea q.edges.length q.ec,.slice q.ia q.ins.length q.ic,.slice q.oa q.outs.length q.oc] 26)) q hN2 (hq.at.new kz) hq.bare;have HB2:=Lib.hid (Keeps.heap (k2.trans kz) HB1.out (fun h=>h));have HQ2:=Lib.hid (hq.new kz);have HO2:=Lib.hid hz;have HF:=Lib.hid hf;simp only[Gr.v,Gr.cs] at hpr ⊢;clear hL hLG x0 x1 x2 x3 x4 hXl HB1 hN1 k2 kz hz hq HP0 hf;go_wp2_with fail;refine hpr.mono ?_;rintro e w3 ⟨rfl,k3⟩;have HB3:=Lib.hid (Keeps.heap k3 HB2.out (fun h=>h));have HO3:=Lib.hid (Keeps.heap k3 HO2.out (fun h=>h));have HQ3:=Lib.hid (HQ2.out.new k3);have hN3:=hN2.trans k3;clear HB2 HO2 HQ2 hN2 k3 hpr;obtain⟨x0,x1,x2,x3,x4,hXl⟩:=aw HB3.out;go_wp2_with fail;refine(HP1.out w3 hN3).mono ?_;rintro e w4 ⟨rfl,k4⟩;have HB4:=Lib.hid (Keeps.heap k4 HB3.out (fun h=>h));have HO4:=Lib.hid (Keeps.heap k4 HO3.out (fun h=>h));have HQ4:=Lib.hid (HQ3.out.new k4);have hN4:=hN3.trans k4;clear HB3 HO3 HQ3 hN3 k4 HP1 x0 x1 x2 x3 x4 hXl;go_wp2_with fail;refine(HP2.out w4 hN4).mono ?_;rintro e w5 ⟨rfl,k5⟩;have HB5:=Lib.hid (Keeps.heap k5 HB4.out (fun h=>h));have HO5:=Lib.hid (Keeps.heap k5 HO4.out (fun h=>h));have HQ5:=Lib.hid (HQ4.out.new k5);have hN5:=hN4.trans k5;have haw:=pU w5 (HE.out.new hN5);clear HB4 HO4 HQ4 hN4 k5 HP2;go_wp2_with fail;refine haw.mono ?_;rintro e w6 ⟨rfl,k6⟩;obtain⟨x0,x1,x2,x3,x4,hXl⟩:=aw (Keeps.heap k6 HB5.out (fun h=>h));obtain⟨y0,y1,y2,y3,y4,hYl⟩:=aw (Keeps.heap k6 HO5.out (fun h=>h));have hN6:=hN5.trans k6;have hkp:=lq w6 g0 q _ (hg0.new hN6) (HQ5.out.new k6) HF.out hl0;simp only[Gr.v,Gr.cs] at hkp;clear haw HB5 HO5 HQ5 hN5 k6;go_wp2_with fail;refine hkp.mono ?_;rintro e w7 ⟨rfl,k7⟩;have hN7:=hN6.trans k7;clear hkp hN6 k7;go_wp2_with fail;(try go_ret)
 exact⟨rfl,hN7⟩
set_option maxRecDepth 100000 in
theorem contract (H:Type) (enc:TypeId×Value->H) (W:World) (base:Nat) (args:Array Value) (ds gs:List (DataW H)) (before:List MemPlace)
  (hval0:∀(j:Nat) t v,Tryz.f4.params[j]? =some t->args[j]? =some v->Value.okWide Tryz.prog W .any base t v)
  (hW:DataW.Whole enc Tryz.prog Tryz.f4.params.toList Rows.sourcePrintsSpec.vars false W args.toList ds gs before)
  (hsz0:(DataW.weightsEach Tryz.prog (Tryz.f4.params.toList++Rows.sourcePrintsSpec.plain.varTypes Tryz.prog) (ds++gs)).all (· <=reachBytes)=true) (hL:laidMetH Tryz.prog Rows.sourcePrintsRow.laid W):
  Calls Tryz.prog 4 args W fun e W'=>∃v,e= .returned v∧Rows.sourcePrintsSpec.post enc Tryz.prog Tryz.f4 false true false false W args v W':=by
 have hval:=hval0;have hsz:=hsz0;clear hsz0;have hW':=hW;have he:EnvS W:=env_of (by exact hL);obtain⟨p,q,hA0,hV,rfl,hfz,hnd⟩:=hW;have hA:DataW.TrodAll enc Tryz.prog W 0 (fun _=>true) true Tryz.f4.params.toList args.toList ds p:=hA0;rw[Tryz.params4] at hA hval hsz;obtain⟨v0,vs0,d0,ds0,p0,q0,hargs,rfl,rfl,h0,r0'⟩:=trodAll_cons hA;obtain⟨rfl,rfl,rfl⟩:=trodAll_nil r0';obtain rfl:args=#[v0]:=by cases args;simp_all
 obtain⟨rfl,rfl⟩:=trodVars_none hV;have k0:=h0;have lt0:∀x∈p0,x.block<W.heap.size:=by obtain⟨m,hm⟩:=k0;exact DataW.trod_lt m _ _ _ hm
 obtain⟨g0',rfl,hg0,hl0,hw0,hr0⟩:=o5 (hval 0 26 v0 rfl rfl) h0;have hr0':GRoom g0':=hr0 (fun m hm=>by
  have:=List.all_eq_true.1 hsz _ (DataW.weights_mem_each (j:=0) rfl rfl m hm);rw[decide_eq_true_iff] at this;exact this)
 clear hA0 hval0;refine(walk W he g0' hg0 hl0 hw0 hr0').mono fun e W' ⟨he,hnew⟩=>?_
 have bel:=hnew.below;subst he;exact⟨_,rfl,_,_,_,[],_,[],hW',trodAll_mk1 (shut_bool Tryz.underlying4 _),(trodAll_cons_mk (Below.trod uu (by kernel_rfl) (of_decide_eq_true (by kernel_rfl)) k0 bel lt0) trodAll_mk0),rfl,bel.frame _,fun h=>by cases h⟩
theorem reads (os:Os) {H:Type} (enc:TypeId×Value->H):∃places,DataW.whole enc Tryz.prog ((laidWorld os).forCall (fun _ _=>0) ⟨#[],#[.agg #[.string ByteArray.empty,.slice none 0 0,.slice none 0 0,.slice none 0 0,.slice none 0 0]],[]⟩).memory Tryz.f4.params.toList Rows.sourcePrintsSpec.vars false #[.agg #[.string ByteArray.empty,.slice none 0 0,.slice none 0 0,.slice none 0 0,.slice none 0 0]].toList 8=some ([.agg [.lit (.string []),.nil,.nil,.nil,.nil]],[],places):=
 ⟨[],by kernel_rfl⟩
set_option maxRecDepth 100000 in
theorem lifted (os:Os) (started:os.Started) (H:Type) (enc:TypeId×Value->H) (F:Stop.Interp):
  ReturnsInHanded {} Tryz.checked os 4 .any ((OpenSpec.ofChange Rows.sourcePrintsSpec).preRow enc Tryz.prog Tryz.f4 Rows.sourcePrintsRow.domain false Rows.sourcePrintsRow.laid) (((OpenSpec.ofChange Rows.sourcePrintsSpec).at F).post enc Tryz.prog Tryz.f4 false true false false):=by
 obtain⟨places,hx⟩:=reads os enc;refine returnsInHanded_of_row (C:=Tryz.checked) (s:=OpenSpec.ofChange Rows.sourcePrintsSpec) own started (by kernel_rfl) Tryz.func4
  (witness_row_at (enc:=enc) (C:=Tryz.checked) false (laidWorld os) #[.agg #[.string ByteArray.empty,.slice none 0 0,.slice none 0 0,.slice none 0 0,.slice none 0 0]] rfl (by kernel_rfl) (by kernel_rfl) (by kernel_rfl)
   (OpenSpec.preRow_of_cond 8 hx (by kernel_rfl) (fun k hk=>by cases hk) (by kernel_rfl) (laid_met os _))) ?_
 intro W base args ds gs before hval hW _ _ hsz hL _ _;exact contract H enc W base args ds gs before hval hW hsz hL
theorem said:Rows.SourcePrintsSaid:=
 OpenClaim.holds_of_cond 4 Tryz.f4 rfl rfl rfl rfl rfl rfl rfl ⟨rfl,rfl,rfl,rfl,rfl⟩ rfl rfl rfl rfl rfl (by kernel_rfl) Tryz.func4 (by kernel_rfl)
  (of_decide_eq_true (by kernel_rfl)) (by unfold Func.isWrapper;first|(rw[if_pos (by decide+kernel)];kernel_rfl)|(rw[if_neg (by decide+kernel)];exact⟨rfl,rfl⟩))
  (fun os started H enc _ F=>by rw[OpenClaim.pre_eq_preRow];exact lifted os started H enc F)
theorem plain (f:FuncId) (fn:Func) (hf:Tryz.pinned.checked.prog.funcNamed "pianola/pianolalaw09.SourcePrints" =some f) (hfn:Tryz.pinned.checked.prog.funcs[f]? =some fn):
  true=Tryz.pinned.checked.prog.looks []∧∀(j:Nat) t,fn.params[j]? =some t->Tryz.pinned.checked.prog.wantsStandIn t=false:=by
 obtain rfl:f=4:=Option.some.inj ((show Tryz.prog.funcNamed "pianola/pianolalaw09.SourcePrints" =some 4 by kernel_rfl).symm.trans hf)|>.symm
 obtain rfl:fn=Tryz.f4:=(Option.some.inj (Tryz.func4.symm.trans hfn)).symm;refine⟨by kernel_rfl,fun j t ht=>?_⟩;rw[Tryz.params4] at ht;have hm:=Array.mem_of_getElem? ht;have:t=26:=by
  simpa[or_assoc] using hm
 rcases this with rfl
 ·exact(show Tryz.prog.wantsStandIn 26=false by kernel_rfl)
theorem proved:Rows.SourcePrintsCardSaid:=
 Claim7.holds_tied_plain_at .later [] _ _ _ _ said (fun _ h=>by cases h) (by kernel_rfl) (fun _ h=>by cases h) sourcePrints_row_tie rfl ⟨rfl,rfl⟩ (by kernel_rfl) rfl plain (by kernel_rfl)
end Go.Proofs.YtnedmonlofbahaaGreatDoor.sourcePrints
