/-
  'SourceParses': the law returns true at every input; what it is handed reads afterwards as before; the variables of the library that it reads hold what the program's text lays.
-/
import Derived.Test.YtnedmonlofbahaaGreatDoorSrcT
import Derived.Test.YtnedmonlofbahaaGreatDoorBs
import Derived.Test.YtnedmonlofbahaaGreatDoorLxB
import Derived.Test.YtnedmonlofbahaaGreatDoorSwD
import Derived.Test.YtnedmonlofbahaaGreatDoorGwG
import Derived.Test.YtnedmonlofbahaaGreatDoorAwB
import Derived.Test.YtnedmonlofbahaaGreatDoorBw
import Derived.Test.YtnedmonlofbahaaGreatDoorDwD
import Derived.Test.YtnedmonlofbahaaGreatDoorSx
import Derived.Test.YtnedmonlofbahaaGreatDoorTw
namespace Go.Proofs.YtnedmonlofbahaaGreatDoor.sourceParses
open Go Go.RowKit Go.Joins Go.ChangeShapes Go.WideShapes Go.ChangeAt
open Go.ChangeMaps (open_string shut_string)
set_option linter.all false
theorem grOwn_le {w:World} {B B':Nat} {g:Gr} (h:GrOwn w B g) (hb:B'<=B):GrOwn w B' g:=
 ⟨ownsRow_le h.ao hb,ownsRow_le h.eo hb,ownsRow_le h.io hb,ownsRow_le h.oo hb,fun x hx=>(h.ax x hx).base hb,fun x hx=>(h.ex x hx).base hb,h.ap,h.po⟩
theorem sparse_own (w:World) (s:ByteArray) (he:Env w) (hs:s.size<=9223372036854775807):
  Calls Tryz.prog 10 #[.string s] w fun e w'=>∃q,e= .returned (.tuple #[q.v,xR (dP s.data.toList)])∧GrOwn w' w.heap.size q∧GLen q∧GFit q∧q.bare=sI s.data.toList∧New w w':=by
 refine(lD w s he hs).mono ?_;intro e w' h;unfold lF at h;unfold sI xR;rcases h with⟨h1,rfl,hn⟩|⟨h1,B,q,hB,rfl,hq,hqb,hn⟩
 ·rw[if_neg h1,if_neg h1];exact⟨zG0,rfl,⟨World.ownsRow_nil _ _ _ _,World.ownsRow_nil _ _ _ _,World.ownsRow_nil _ _ _ _,World.ownsRow_nil _ _ _ _,(fun x hx=>by cases hx),(fun x hx=>by cases hx),List.Pairwise.nil,(fun k hk=>by obtain⟨y,hy,_⟩:=hk;cases hy)⟩,AL,⟨by decide,by decide,by decide,by decide,fun t ht=>by cases ht⟩,rfl,hn⟩
 ·rw[if_pos h1,if_pos h1];have hf:=(rG h1 hqb).2.2.1;have a:=hf.na;have b:=hf.ne;have c:=hf.ni;have d:=hf.no;refine⟨q,rfl,grOwn_le hq hB,xW hf,⟨by omega,by omega,by omega,by omega,fun t ht=>?_⟩,hqb,hn⟩;rcases List.mem_append.1 ht with ht|ht
  ·obtain⟨x,hx,rfl⟩:=List.mem_map.1 ht;have:=(fD (hf.shp x hx)).2.2;show x.xs.length<=_
   omega
  ·obtain⟨x,hx,rfl⟩:=List.mem_map.1 ht;have:=hf.ln x hx;show x.xs.length<=_
   omega
set_option maxRecDepth 100000 in
set_option maxHeartbeats 4000000 in
theorem walk (w:World) (he:EnvS w) (a0:ByteArray) (h0:a0.size<=140737488351232):
  Calls Tryz.prog 3 #[.string a0] w fun e w'=>e= .returned (.bool true)∧New w w':=by
 have hs:a0.size<=9223372036854775807:=by omega
 have hA:=fun W (e:Env W)=>sparse_own W a0 e hs
 have hR:=fun W=>sF W a0 hs
 have hfa:=fun W (k:qs W)=>vM W (dP a0.data.toList) zF k
 obtain⟨ev,hev⟩:∃v,xR (dP a0.data.toList)=v:=⟨_,rfl⟩
 rw[hev] at hfa;simp only[hev] at hA;obtain⟨f,hf⟩:∃f,dP a0.data.toList=f:=⟨_,rfl⟩
 simp only[hf] at hR hfa;obtain⟨hh,hhh⟩:∃f,sI a0.data.toList=f:=⟨_,rfl⟩
 simp only[hhh] at hR hA;obtain⟨c,k⟩:=f;have HE:=Lib.hid he;have HFA:=Lib.hid hfa;have HRR:=Lib.hid hR;have HAA:=Lib.hid hA;clear hev hf hhh he hs hfa hR hA;go_enter Tryz.func3,Tryz.ntmps3;go_wp2_with fail;refine(HAA.out w HE.out.env).mono ?_;rintro e w1 ⟨q,rfl,hq,hql,hqf,hqb,n1⟩;have n2:New w1 (w1.alloc (.cells q.cs 26)):=(New.refl _).alloc _;have HG:=Lib.hid (heap_alloc_new w1 (.cells q.cs 26));have N1:=Lib.hid (n1.trans n2);have hp2:=HAA.out (w1.alloc (.cells q.cs 26)) (HE.out.env.new N1.out);have HQ:=Lib.hid (hq.new n2);have HLT:Hid (∀j,gb q j->j<(w1.alloc (.cells q.cs 26)).heap.size):=Lib.hid (fun j hj=>Nat.lt_of_lt_of_le (uG hq hj).2 n2.size);have HQL:=Lib.hid hql;have HQF:=Lib.hid hqf;have HQB:=Lib.hid hqb;simp only[Gr.v,Gr.cs] at HG N1 HQ HLT hp2 ⊢;clear hq hql hqf hqb n1 n2;go_wp2_with fail;generalize hBQ:w1.heap.size=BQ at HG ⊢;generalize(w1.alloc (.cells #[.string q.name,.slice q.aa q.acts.length q.ac,.slice q.ea q.edges.length q.ec,.slice q.ia q.ins.length q.ic,.slice q.oa q.outs.length q.oc] 26))=v1 at HG N1 HQ HLT hp2 ⊢;refine hp2.mono ?_;rintro e w2 ⟨p,rfl,hp,hpl,hpf,hpb,n3⟩;have n4:New w2 (w2.alloc (.cells p.cs 26)):=(New.refl _).alloc _;have n34:=n3.trans n4;have HDI:Hid (∀j,gb q j->¬gb p j):=Lib.hid (fun j h1 h2=>by have:=HLT.out j h1;have:=(uG hp h2).1;omega);have HP:=Lib.hid ((grOwn_le hp N1.out.size).new n4);have HPB:=Lib.hid hpb;have HPF:=Lib.hid hpf;have HPL:=Lib.hid hpl;have HB:=Lib.hid (heap_alloc_new w2 (.cells p.cs 26));replace HG:=Lib.hid (Keeps.heap n34 HG.out (fun h=>h));replace HQ:=Lib.hid (HQ.out.new n34);have N2:=Lib.hid (N1.out.trans n34);have hr3:=HRR.out (w2.alloc (.cells p.cs 26));simp only[Gr.v,Gr.cs] at HB N2 HP HG HQ hr3 ⊢;clear hp hpl hpf hpb n3 n4 n34 hp2 HLT N1 hBQ HAA HRR;go_wp2_with fail;generalize hBP:w2.heap.size=BP at HB ⊢;generalize(w2.alloc (.cells #[.string p.name,.slice p.aa p.acts.length p.ac,.slice p.ea p.edges.length p.ec,.slice p.ia p.ins.length p.ic,.slice p.oa p.outs.length p.oc] 26))=v2 at HB N2 HP HG HQ hr3 ⊢;refine hr3.mono ?_;rintro e w3 ⟨r,rfl,hr,hrb,n5⟩;have n6:New w3 ((w3.alloc (.cells r.cs 26)).alloc (.cells #[I c,I k] 33)):=((New.refl _).alloc _).alloc _;have n56:=n5.trans n6;have hW:((w3.alloc (.cells r.cs 26)).alloc (.cells #[I c,I k] 33)).heap[w3.heap.size]? =some (.cells r.cs 26 (0,0)):=Keeps.heap (Keeps.alloc (S:=fun _=>False) _ _) (heap_alloc_new w3 _) (fun h=>h);have hX:((w3.alloc (.cells r.cs 26)).alloc (.cells #[I c,I k] 33)).heap[w3.heap.size+1]? =some (.cells #[I c,I k] 33 (0,0)):=by
  have:=heap_alloc_new (w3.alloc (.cells r.cs 26)) (.cells #[I c,I k] 33);simpa using this
 have HW:=Lib.hid hW;have HX:=Lib.hid hX;have HRA:=Lib.hid (hr.new n6);have HRB:=Lib.hid hrb;replace HG:=Lib.hid (Keeps.heap n56 HG.out (fun h=>h));replace HB:=Lib.hid (Keeps.heap n56 HB.out (fun h=>h));replace HQ:=Lib.hid (HQ.out.new n56);replace HP:=Lib.hid (HP.out.new n56);have N3:=Lib.hid (N2.out.trans n56);have hf1:=HFA.out _ (HE.out.et.new N3.out);simp only[Gr.v,Gr.cs] at HW HX HRA HG HB HQ HP N3 hf1 ⊢;clear hW hX hr hrb n5 n6 n56 hr3 N2 hBP;go_wp2_with fail;generalize hBW:w3.heap.size=BW at HW HX ⊢;generalize(((w3.alloc (.cells #[.string r.name,.slice r.aa r.acts.length r.ac,.slice r.ea r.edges.length r.ec,.slice r.ia r.ins.length r.ic,.slice r.oa r.outs.length r.oc] 26))).alloc (.cells #[I c,I k] 33))=v3 at HW HX HRA HG HB HQ HP N3 hf1 ⊢;refine hf1.mono ?_;rintro e w4 ⟨rfl,n7⟩;have n8:New w4 (w4.alloc (.cells #[I c,I k] 33)):=(New.refl _).alloc _;have HY:=Lib.hid (heap_alloc_new w4 (.cells #[I c,I k] 33));have n78:=n7.trans n8;have N4:=Lib.hid (N3.out.trans n78);have K4:=Lib.hid n78;have hf2:=HFA.out _ (HE.out.et.new N4.out);clear n7 n8 n78 hf1 HFA hBW;go_wp2_with fail;refine hf2.mono ?_;rintro e w5 ⟨rfl,n9⟩;have n10:New w5 (w5.alloc (.cells #[I c,I k] 33)):=(New.refl _).alloc _;have HZ:=Lib.hid (heap_alloc_new w5 (.cells #[I c,I k] 33));have n910:=n9.trans n10;replace HY:=Lib.hid (Keeps.heap n910 HY.out (fun h=>h));have K5:=K4.out.trans n910;have N5:=Lib.hid (N3.out.trans K5);replace HG:=Lib.hid (Keeps.heap K5 HG.out (fun h=>h));replace HB:=Lib.hid (Keeps.heap K5 HB.out (fun h=>h));replace HW:=Lib.hid (Keeps.heap K5 HW.out (fun h=>h));replace HX:=Lib.hid (Keeps.heap K5 HX.out (fun h=>h));replace HQ:=Lib.hid (HQ.out.new K5);replace HP:=Lib.hid (HP.out.new K5);replace HRA:=Lib.hid (HRA.out.new K5);clear n9 n10 n910 K5 K4 N4 N3 hf2;go_upto_region 6 with(fail)
 generalize hBZ:w5.heap.size=BZ at HZ ⊢;generalize hBY:w4.heap.size=BY at HY ⊢;generalize(w5.alloc (.cells #[I c,I k] 33))=v5 at HZ HY N5 HG HB HW HX HQ HP HRA ⊢;clear hBZ hBY;obtain⟨x0,x1,-,-,xl⟩:=iQ HX.out;obtain⟨y0,y1,-,-,yl⟩:=iQ HY.out;obtain⟨z0,z1,-,-,zl⟩:=iQ HZ.out;obtain⟨u0,u1,u2,u3,u4,ul⟩:=an HG.out;obtain⟨t0,t1,t2,t3,t4,tl⟩:=an HW.out;have hs1:=kY v5 q r HQ.out.at HRA.out (HQB.out.trans HRB.out.symm) HQL.out;have hs2:=fun W (n:New v5 W)=>kY W p r (HP.out.new n).at (HRA.out.new n) (HPB.out.trans HRB.out.symm) HPL.out
 simp only[Gr.v,Gr.cs] at hs1 hs2;go_wp2_with fail;refine hs1.mono ?_;rintro e w6 ⟨rfl,n11⟩;have hs3:=hs2 w6 n11;clear x0 x1 xl y0 y1 yl z0 z1 zl u0 u1 u2 u3 u4 ul t0 t1 t2 t3 t4 tl hs1 hs2;obtain⟨u0,u1,u2,u3,u4,ul⟩:=an (Keeps.heap n11 HB.out (fun h=>h));obtain⟨t0,t1,t2,t3,t4,tl⟩:=an (Keeps.heap n11 HW.out (fun h=>h));go_wp2_with fail;refine hs3.mono ?_;rintro e w7 ⟨rfl,n12⟩;have n112:=n11.trans n12;have haw:=vp w7 (HE.out.new (N5.out.trans n112));clear hs3 u0 u1 u2 u3 u4 ul t0 t1 t2 t3 t4 tl n11 n12;go_wp2_with fail;refine haw.mono ?_;rintro e w8 ⟨rfl,n13⟩;have n8:=n112.trans n13;obtain⟨u0,u1,u2,u3,u4,ul⟩:=an (Keeps.heap n8 HG.out (fun h=>h));obtain⟨t0,t1,t2,t3,t4,tl⟩:=an (Keeps.heap n8 HB.out (fun h=>h));have N8:=Lib.hid (N5.out.trans n8);have hap:=sP w8 w.heap.size q p (HQ.out.new n8) (HP.out.new n8) N8.out.size HDI.out HQF.out HPF.out;simp only[Gr.v,Gr.cs] at hap;clear haw n13 n112 n8;go_wp2_with fail;refine hap.mono ?_;rintro e w9 ⟨rfl,k9⟩;go_wp2_with fail;(try go_ret)
 exact⟨rfl,New.keeps N8.out k9 (fun i hi h=>by omega)⟩
set_option maxRecDepth 100000 in
theorem contract (H:Type) (enc:TypeId×Value->H) (W:World) (base:Nat) (args:Array Value) (ds gs:List (DataW H)) (before:List MemPlace)
  (hval0:∀(j:Nat) t v,Tryz.f3.params[j]? =some t->args[j]? =some v->Value.okWide Tryz.prog W .any base t v)
  (hW:DataW.Whole enc Tryz.prog Tryz.f3.params.toList Rows.sourceParsesSpec.vars false W args.toList ds gs before)
  (hsz0:(DataW.weightsEach Tryz.prog (Tryz.f3.params.toList++Rows.sourceParsesSpec.plain.varTypes Tryz.prog) (ds++gs)).all (· <=reachBytes)=true) (hL:laidMetH Tryz.prog Rows.sourceParsesRow.laid W):
  Calls Tryz.prog 3 args W fun e W'=>∃v,e= .returned v∧Rows.sourceParsesSpec.post enc Tryz.prog Tryz.f3 false true false false W args v W':=by
 have hval:=hval0;have hsz:=hsz0;clear hsz0;have hW':=hW;have he:EnvS W:=env_of (by exact hL);obtain⟨p,q,hA0,hV,rfl,hfz,hnd⟩:=hW;have hA:DataW.TrodAll enc Tryz.prog W 0 (fun _=>true) true Tryz.f3.params.toList args.toList ds p:=hA0;rw[Tryz.params3] at hA hval hsz;obtain⟨v0,vs0,d0,ds0,p0,q0,hargs,rfl,rfl,h0,r0'⟩:=trodAll_cons hA;obtain⟨rfl,rfl,rfl⟩:=trodAll_nil r0';obtain rfl:args=#[v0]:=by cases args;simp_all
 obtain⟨rfl,rfl⟩:=trodVars_none hV;have k0:=h0;have lt0:∀x∈p0,x.block<W.heap.size:=by obtain⟨m,hm⟩:=k0;exact DataW.trod_lt m _ _ _ hm
 obtain⟨a0,rfl,e0,_,w0⟩:=open_string Tryz.underlying9 (hval 0 9 v0 rfl rfl) h0;have s0:a0.size<=140737488351232:=by
  have hh:=sized_string hsz (j:=0) (t:=9) (bytes:=a0.data.toList) rfl (by rw[e0];rfl);have hr:reachBytes=140737488351232:=rfl;rw[hr,Array.length_toList] at hh;exact hh
 clear hA0 hval0;refine(walk W he a0 s0).mono fun e W' ⟨he,hnew⟩=>?_
 have bel:=hnew.below;subst he;exact⟨_,rfl,_,_,_,[],_,[],hW',trodAll_mk1 (shut_bool Tryz.underlying4 _),(trodAll_cons_mk (Below.trod Am (by kernel_rfl) (of_decide_eq_true (by kernel_rfl)) k0 bel lt0) trodAll_mk0),rfl,bel.frame _,fun h=>by cases h⟩
theorem reads (os:Os) {H:Type} (enc:TypeId×Value->H):∃places,DataW.whole enc Tryz.prog ((laidWorld os).forCall (fun _ _=>0) ⟨#[],#[.string ByteArray.empty],[]⟩).memory Tryz.f3.params.toList Rows.sourceParsesSpec.vars false #[.string ByteArray.empty].toList 8=some ([.lit (.string [])],[],places):=
 ⟨[],by kernel_rfl⟩
set_option maxRecDepth 100000 in
theorem lifted (os:Os) (started:os.Started) (H:Type) (enc:TypeId×Value->H) (F:Stop.Interp):
  ReturnsInHanded {} Tryz.checked os 3 .any ((OpenSpec.ofChange Rows.sourceParsesSpec).preRow enc Tryz.prog Tryz.f3 Rows.sourceParsesRow.domain false Rows.sourceParsesRow.laid) (((OpenSpec.ofChange Rows.sourceParsesSpec).at F).post enc Tryz.prog Tryz.f3 false true false false):=by
 obtain⟨places,hx⟩:=reads os enc;refine returnsInHanded_of_row (C:=Tryz.checked) (s:=OpenSpec.ofChange Rows.sourceParsesSpec) own started (by kernel_rfl) Tryz.func3
  (witness_row_at (enc:=enc) (C:=Tryz.checked) false (laidWorld os) #[.string ByteArray.empty] rfl (by kernel_rfl) (by kernel_rfl) (by kernel_rfl)
   (OpenSpec.preRow_of_cond 8 hx (by kernel_rfl) (fun k hk=>by cases hk) (by kernel_rfl) (laid_met os _))) ?_
 intro W base args ds gs before hval hW _ _ hsz hL _ _;exact contract H enc W base args ds gs before hval hW hsz hL
theorem said:Rows.SourceParsesSaid:=
 OpenClaim.holds_of_cond 3 Tryz.f3 rfl rfl rfl rfl rfl rfl rfl ⟨rfl,rfl,rfl,rfl,rfl⟩ rfl rfl rfl rfl rfl (by kernel_rfl) Tryz.func3 (by kernel_rfl)
  (of_decide_eq_true (by kernel_rfl)) (by unfold Func.isWrapper;first|(rw[if_pos (by decide+kernel)];kernel_rfl)|(rw[if_neg (by decide+kernel)];exact⟨rfl,rfl⟩))
  (fun os started H enc _ F=>by rw[OpenClaim.pre_eq_preRow];exact lifted os started H enc F)
theorem plain (f:FuncId) (fn:Func) (hf:Tryz.pinned.checked.prog.funcNamed "pianola/pianolalaw09.SourceParses" =some f) (hfn:Tryz.pinned.checked.prog.funcs[f]? =some fn):
  true=Tryz.pinned.checked.prog.looks []∧∀(j:Nat) t,fn.params[j]? =some t->Tryz.pinned.checked.prog.wantsStandIn t=false:=by
 obtain rfl:f=3:=Option.some.inj ((show Tryz.prog.funcNamed "pianola/pianolalaw09.SourceParses" =some 3 by kernel_rfl).symm.trans hf)|>.symm
 obtain rfl:fn=Tryz.f3:=(Option.some.inj (Tryz.func3.symm.trans hfn)).symm;refine⟨by kernel_rfl,fun j t ht=>?_⟩;rw[Tryz.params3] at ht;have hm:=Array.mem_of_getElem? ht;have:t=9:=by
  simpa[or_assoc] using hm
 rcases this with rfl
 ·exact(show Tryz.prog.wantsStandIn 9=false by kernel_rfl)
theorem proved:Rows.SourceParsesCardSaid:=
 Claim7.holds_tied_plain_at .later [] _ _ _ _ said (fun _ h=>by cases h) (by kernel_rfl) (fun _ h=>by cases h) sourceParses_row_tie rfl ⟨rfl,rfl⟩ (by kernel_rfl) rfl plain (by kernel_rfl)
end Go.Proofs.YtnedmonlofbahaaGreatDoor.sourceParses
