/-
  SkH, SkI, SkD: what is wanted of them.
-/
import Derived.Test.YtnedmonlofbahaaGreatDoorSwA
import Derived.Deep.DeepCutAuto
import Derived.Deep.CutBlock
set_option maxRecDepth 100000
set_option maxHeartbeats 8000000
namespace Go.Proofs.YtnedmonlofbahaaGreatDoor
open Go Go.RowKit Go.Joins
set_option linter.all false
def dL (n:ByteArray) (p:Int):List UInt8:=n.data.toList++46::Lib.itoa p
def bL (xs:List Int):List UInt8:=xs.flatMap fun n=>32::Lib.itoa n
def ft (x:SIt):List UInt8:=
 if x.kind=1 then[32,32,97,99,116,111,114,32]++x.name.data.toList++[32,61,32]++x.tag.data.toList
 else if x.kind=2 then[32,32,101,100,103,101,32]++dL x.fn x.fp++[32,45,62,32]++dL x.tn x.tp++(if x.xs=[] then[] else[32,119,105,116,104])
 else if x.kind=3 then[32,32,105,110,32]++x.name.data.toList++[32,45,62,32]++dL x.tn x.tp
 else if x.kind=4 then[32,32,111,117,116,32]++dL x.fn x.fp++[32,45,62,32]++x.name.data.toList
 else[]
def cl (x:SIt):List UInt8:=ft x++bL x.xs++[59,10]
def dI (n:ByteArray):Bool:=n.toList.isEmpty
def fY (n:ByteArray) (p:Int):Bool:=dI n&&(p==0)
def bD (x:SIt):Bool:=
 if x.kind=1 then aQ x.name&&aQ x.tag&&fY x.fn x.fp&&fY x.tn x.tp
 else if x.kind=2 then dI x.name&&dI x.tag&&aQ x.fn&&aQ x.tn
 else if x.kind=3 then aQ x.name&&dI x.tag&&(x.xs.length==0)&&fY x.fn x.fp&&aQ x.tn
 else if x.kind=4 then aQ x.name&&dI x.tag&&(x.xs.length==0)&&aQ x.fn&&fY x.tn x.tp
 else false
def dE (s:Sk):List UInt8:=[103,114,97,112,104,32]++s.name.data.toList++[32,123,10]++s.items.flatMap cl++[125,10]
def dW (s:Sk):List UInt8×Int:=
 if(aQ s.name&&s.items.all bD)=false then([],1) else if 1048576<(dE s).length then([],2) else(dE s,0)
theorem rl (w:World) (n:ByteArray) (p a:Int):Calls Tryz.prog 114 #[.agg #[.string n,I p,I a]] w fun e w'=>e= .returned (.bool (fY n p))∧New w w':=by
 have nb:New w (w.alloc (.cells #[.string n,I p,I a] 103)):=(New.refl w).alloc _;obtain⟨c0,c1,c2,-,hR⟩:=gK (tZ w (.string n) (I p) (I a));unfold fY dI;cases h1:n.toList.isEmpty with
 |false=>
  go_enter Tryz.func114,Tryz.ntmps114;go_wp2_with fail;go_ret
  exact⟨rfl,nb⟩
 |true=>
  cases h2:(p==0) with
  |false=>
   go_enter Tryz.func114,Tryz.ntmps114;go_wp2_with fail;go_ret
   exact⟨rfl,nb⟩
  |true=>
   go_enter Tryz.func114,Tryz.ntmps114;go_wp2_with fail;go_ret
   exact⟨rfl,nb⟩
structure ISz (x:SIt):Prop where
 n:x.name.size<=9223372036854775807
 t:x.tag.size<=9223372036854775807
 f:x.fn.size<=9223372036854775807
 o:x.tn.size<=9223372036854775807
theorem qU (w:World) (x:SIt) (hz:ISz x) (hl:x.xs.length<=9223372036854775807):Calls Tryz.prog 72 #[.agg (itA x)] w fun e w'=>e= .returned (.bool (bD x))∧New w w':=by
 obtain⟨kind,name,tag,sa,sc,xs,fn,fp,fa,tn,tp,ta,at_⟩:=x;have nb:New w (w.alloc (.cells #[.int .u8 kind,.string name,.string tag,.slice sa xs.length sc,.string fn,I fp,I fa,.string tn,I tp,I ta,I at_] ItT)):=(New.refl w).alloc _;obtain⟨⟨c0,c1,c2,c3,c4,c5,c6,c7,c8,c9,c10⟩,-,hX⟩:=aF (heap_alloc_new w (.cells #[.int .u8 kind,.string name,.string tag,.slice sa xs.length sc,.string fn,I fp,I fa,.string tn,I tp,I ta,I at_] ItT));have hnm:=fun W=>f9 W name hz.n
 have htg:=fun W=>f9 W tag hz.t
 have hfn:=fun W=>f9 W fn hz.f
 have htn:=fun W=>f9 W tn hz.o
 have hbf:=fun W=>rl W fn fp fa
 have hbt:=fun W=>rl W tn tp ta
 unfold bD;simp only[itA];clear hz;generalize aQ name=bn at hnm ⊢;generalize aQ tag=bt at htg ⊢;generalize aQ fn=bf at hfn ⊢;generalize aQ tn=bo at htn ⊢;generalize fY fn fp=rf at hbf ⊢;generalize fY tn tp=rt at hbt ⊢;obtain⟨n,hn⟩:∃n,xs.length=n:=⟨_,rfl⟩
 simp only[hn] at c0 c1 c2 c3 c4 c5 c6 c7 c8 c9 c10 nb hX hl ⊢;clear hn;obtain⟨em,hem⟩:∃b,dI name=b:=⟨_,rfl⟩
 obtain⟨et,het⟩:∃b,dI tag=b:=⟨_,rfl⟩
 rw[hem,het];unfold dI at hem het;obtain⟨ez,hez⟩:∃b,((n:Int)==0)=b:=⟨_,rfl⟩
 have CI:(n==0)=ez:=by rw[<-hez];cases n<;>simp<;>omega
 rw[CI];have HEZ:=Lib.hid hez;have HEM:=Lib.hid hem;have HET:=Lib.hid het;clear hez CI hem het;have HNB:=Lib.hid nb;have hcs:=fun W (k:New _ W)=>And.intro (New.cell k c0) (And.intro (New.cell k c1) (And.intro (New.cell k c2) (And.intro (New.cell k c3) (And.intro (New.cell k c4) (And.intro (New.cell k c5) (And.intro (New.cell k c6) (And.intro (New.cell k c7) (And.intro (New.cell k c8) (New.cell k c9)))))))))
 have HCS:=Lib.hid hcs;obtain⟨PO,hPO⟩:∃PO:Ending->World->Prop,PO=fun e w'=>e= .returned (.bool (if kind=1 then bn&&bt&&rf&&rt else if kind=2 then em&&et&&bf&&bo else if kind=3 then bn&&et&&ez&&rf&&bo else if kind=4 then bn&&et&&ez&&bf&&rt else false))∧New w w':=⟨_,rfl⟩
 rw[<-hPO];have HPO:=Lib.hid hPO;clear hPO nb hcs;go_enter Tryz.func72,Tryz.ntmps72;go_wp2_with fail;have hS0:(fun w':World=>w'.cell? ⟨w.heap.size,1,none⟩=some (.string name)∧w'.cell? ⟨w.heap.size,2,none⟩=some (.string tag)) (w.alloc (.cells #[.int .u8 kind,.string name,.string tag,.slice sa n sc,.string fn,I fp,I fa,.string tn,I tp,I ta,I at_] ItT)).drew:=⟨c1,c2⟩
 refine aj (fun w':World=>w'.cell? ⟨w.heap.size,1,none⟩=some (.string name)∧w'.cell? ⟨w.heap.size,2,none⟩=some (.string tag)) [] (by kernel_rfl) hS0 ?_;refine ae 0 hS0 ?_;refine ae 1 hS0 ?_;refine ae 3 hS0 ?_;refine ae 4 hS0 ?_;refine ae 5 hS0 ?_;refine ag 2 ?_;intro K hK;(try simp only[Act.put,sLs])
 go_simp;refine(hnm _).mono ?_;rintro e w1 ⟨rfl,n1⟩;have n01:New (w.alloc (.cells #[.int .u8 kind,.string name,.string tag,.slice sa n sc,.string fn,I fp,I fa,.string tn,I tp,I ta,I at_] ItT)) w1:=(New.refl _).drew.trans n1;have hS1:(fun w':World=>w'.cell? ⟨w.heap.size,1,none⟩=some (.string name)∧w'.cell? ⟨w.heap.size,2,none⟩=some (.string tag)) w1:=⟨n01.cell c1,n01.cell c2⟩
 refine hK _ _ (fun _=>hS1) ?_;clear hK K hS0;refine ae 6 hS1 ?_;refine ae 7 hS1 ?_;refine av (by kernel_rfl) ?_;(try simp only[Act.put,sLs])
 simp only[Exit.then];have HN1:=Lib.hid n01;clear n1 n01 hS1;go_wp2_with fail;have hcs:=HCS.out _ HN1.out;go_cut [5,6] (fun c d w'=>c= .bool bf∧d= .bool bo∧Hid (New (w.alloc (.cells #[.int .u8 kind,.string name,.string tag,.slice sa n sc,.string fn,I fp,I fa,.string tn,I tp,I ta,I at_] ItT)) w'))
 case first=>
  have f4:=hcs.2.2.2.2.1;have f7:=hcs.2.2.2.2.2.2.2.1;clear hcs;have hS0:(fun w':World=>w'.cell? ⟨w.heap.size,4,none⟩=some (.string fn)∧w'.cell? ⟨w.heap.size,7,none⟩=some (.string tn)) w1.drew:=⟨f4,f7⟩
  refine aj (fun w':World=>w'.cell? ⟨w.heap.size,4,none⟩=some (.string fn)∧w'.cell? ⟨w.heap.size,7,none⟩=some (.string tn)) [] (by kernel_rfl) hS0 ?_;refine ae 0 hS0 ?_;refine ae 1 hS0 ?_;refine ae 2 hS0 ?_;refine ae 4 hS0 ?_;refine ae 5 hS0 ?_;refine ae 6 hS0 ?_;refine ag 3 ?_;intro K hK;(try simp only[Act.put,sLs])
  go_simp;refine(hfn _).mono ?_;rintro e w2 ⟨rfl,n2⟩;have n02:New w1 w2:=(New.refl _).drew.trans n2;have hS2:(fun w':World=>w'.cell? ⟨w.heap.size,4,none⟩=some (.string fn)∧w'.cell? ⟨w.heap.size,7,none⟩=some (.string tn)) w2:=⟨n02.cell f4,n02.cell f7⟩
  refine hK _ _ (fun _=>hS2) ?_;clear hK K hS0;refine ag 7 ?_;intro K hK;(try simp only[Act.put,sLs])
  go_simp;refine(htn _).mono ?_;rintro e w3 ⟨rfl,n3⟩;have n03:New w1 w3:=n02.trans n3;have hS3:(fun w':World=>w'.cell? ⟨w.heap.size,4,none⟩=some (.string fn)∧w'.cell? ⟨w.heap.size,7,none⟩=some (.string tn)) w3:=⟨n03.cell f4,n03.cell f7⟩
  refine hK _ _ (fun _=>hS3) ?_;clear hK K hS2;refine ae 8 hS3 ?_;refine ae 9 hS3 ?_;refine av (by kernel_rfl) ?_;(try simp only[Act.put,sLs])
  (try simp only[Exit.then])
  go_wp2
  go_meet
  case rel=>exact⟨rfl,rfl,Lib.hid (HN1.out.trans n03)⟩
 case rest=>
  clear hcs c0 c1 c2 c3 c4 c5 c6 c7 c8 c9 c10;obtain⟨rfl,rfl,HNX⟩:=hcut;obtain⟨b0,b1,b2,b3,b4,b5,b6,b7,b8,b9⟩:=HCS.out _ HNX.out;have hez:=HEZ.out;have hem:=HEM.out;have het:=HET.out;by_cases h1:kind=1
  ·subst h1;cases bn with
   |false=>
    go_wp2_with fail;(try go_ret)
    rw[HPO.out];exact⟨by simp,HNB.out.trans HNX.out⟩
   |true=>
    cases bt with
    |false=>
     go_wp2_with fail;refine(htg _).mono ?_;rintro e v1 ⟨rfl,m1⟩;obtain⟨-,-,a2,-,a4,a5,a6,a7,a8,a9⟩:=HCS.out _ (HNX.out.trans m1);go_wp2_with fail;(try go_ret)
     rw[HPO.out];exact⟨by simp,HNB.out.trans (HNX.out.trans m1)⟩
    |true=>
     go_wp2_with fail;refine(htg _).mono ?_;rintro e v1 ⟨rfl,m1⟩;obtain⟨-,-,a2,-,a4,a5,a6,a7,a8,a9⟩:=HCS.out _ (HNX.out.trans m1);cases rf with
     |false=>
      go_wp2_with fail;refine(hbf _).mono ?_;rintro e v2 ⟨rfl,m2⟩;obtain⟨-,-,a2,-,a4,a5,a6,a7,a8,a9⟩:=HCS.out _ ((HNX.out.trans m1).trans m2);go_wp2_with fail;(try go_ret)
      rw[HPO.out];exact⟨by simp,HNB.out.trans ((HNX.out.trans m1).trans m2)⟩
     |true=>
      go_wp2_with fail;refine(hbf _).mono ?_;rintro e v2 ⟨rfl,m2⟩;obtain⟨-,-,a2,-,a4,a5,a6,a7,a8,a9⟩:=HCS.out _ ((HNX.out.trans m1).trans m2);cases rt with
      |false=>
       go_wp2_with fail;refine(hbt _).mono ?_;rintro e v3 ⟨rfl,m3⟩;obtain⟨-,-,a2,-,a4,a5,a6,a7,a8,a9⟩:=HCS.out _ (((HNX.out.trans m1).trans m2).trans m3);go_wp2_with fail;(try go_ret)
       rw[HPO.out];exact⟨by simp,HNB.out.trans (((HNX.out.trans m1).trans m2).trans m3)⟩
      |true=>
       go_wp2_with fail;refine(hbt _).mono ?_;rintro e v3 ⟨rfl,m3⟩;obtain⟨-,-,a2,-,a4,a5,a6,a7,a8,a9⟩:=HCS.out _ (((HNX.out.trans m1).trans m2).trans m3);go_wp2_with fail;(try go_ret)
       rw[HPO.out];exact⟨by simp,HNB.out.trans (((HNX.out.trans m1).trans m2).trans m3)⟩
  ·have d1:(kind==1)=false:=by simpa using h1
   by_cases h2:kind=2
   ·subst h2;cases em with
    |false=>
     go_wp2_with fail;(try go_ret)
     rw[HPO.out];exact⟨by simp,HNB.out.trans HNX.out⟩
    |true=>
     cases et with
     |false=>
      go_wp2_with fail;(try go_ret)
      rw[HPO.out];exact⟨by simp,HNB.out.trans HNX.out⟩
     |true=>
      cases bf with
      |false=>
       go_wp2_with fail;(try go_ret)
       rw[HPO.out];exact⟨by simp,HNB.out.trans HNX.out⟩
      |true=>
       cases bo with
       |false=>
        go_wp2_with fail;(try go_ret)
        rw[HPO.out];exact⟨by simp,HNB.out.trans HNX.out⟩
       |true=>
        go_wp2_with fail;(try go_ret)
        rw[HPO.out];exact⟨by simp,HNB.out.trans HNX.out⟩
   ·have d2:(kind==2)=false:=by simpa using h2
    by_cases h3:kind=3
    ·subst h3;cases bn with
     |false=>
      go_wp2_with fail;(try go_ret)
      rw[HPO.out];exact⟨by simp,HNB.out.trans HNX.out⟩
     |true=>
      cases et with
      |false=>
       go_wp2_with fail;(try go_ret)
       rw[HPO.out];exact⟨by simp,HNB.out.trans HNX.out⟩
      |true=>
       cases ez with
       |false=>
        go_wp2_with fail;(try go_ret)
        rw[HPO.out];exact⟨by simp,HNB.out.trans HNX.out⟩
       |true=>
        cases rf with
        |false=>
         go_wp2_with fail;refine(hbf _).mono ?_;rintro e v1 ⟨rfl,m1⟩;obtain⟨-,-,a2,-,a4,a5,a6,a7,a8,a9⟩:=HCS.out _ (HNX.out.trans m1);go_wp2_with fail;(try go_ret)
         rw[HPO.out];exact⟨by simp,HNB.out.trans (HNX.out.trans m1)⟩
        |true=>
         go_wp2_with fail;refine(hbf _).mono ?_;rintro e v1 ⟨rfl,m1⟩;obtain⟨-,-,a2,-,a4,a5,a6,a7,a8,a9⟩:=HCS.out _ (HNX.out.trans m1);cases bo with
         |false=>
          go_wp2_with fail;(try go_ret)
          rw[HPO.out];exact⟨by simp,HNB.out.trans (HNX.out.trans m1)⟩
         |true=>
          go_wp2_with fail;(try go_ret)
          rw[HPO.out];exact⟨by simp,HNB.out.trans (HNX.out.trans m1)⟩
    ·have d3:(kind==3)=false:=by simpa using h3
     by_cases h4:kind=4
     ·subst h4;cases bn with
      |false=>
       go_wp2_with fail;(try go_ret)
       rw[HPO.out];exact⟨by simp,HNB.out.trans HNX.out⟩
      |true=>
       cases et with
       |false=>
        go_wp2_with fail;(try go_ret)
        rw[HPO.out];exact⟨by simp,HNB.out.trans HNX.out⟩
       |true=>
        cases ez with
        |false=>
         go_wp2_with fail;(try go_ret)
         rw[HPO.out];exact⟨by simp,HNB.out.trans HNX.out⟩
        |true=>
         cases bf with
         |false=>
          go_wp2_with fail;(try go_ret)
          rw[HPO.out];exact⟨by simp,HNB.out.trans HNX.out⟩
         |true=>
          cases rt with
          |false=>
           go_wp2_with fail;refine(hbt _).mono ?_;rintro e v1 ⟨rfl,m1⟩;obtain⟨-,-,a2,-,a4,a5,a6,a7,a8,a9⟩:=HCS.out _ (HNX.out.trans m1);go_wp2_with fail;(try go_ret)
           rw[HPO.out];exact⟨by simp,HNB.out.trans (HNX.out.trans m1)⟩
          |true=>
           go_wp2_with fail;refine(hbt _).mono ?_;rintro e v1 ⟨rfl,m1⟩;obtain⟨-,-,a2,-,a4,a5,a6,a7,a8,a9⟩:=HCS.out _ (HNX.out.trans m1);go_wp2_with fail;(try go_ret)
           rw[HPO.out];exact⟨by simp,HNB.out.trans (HNX.out.trans m1)⟩
     ·have d4:(kind==4)=false:=by simpa using h4
      have HH:=Lib.hid (And.intro h1 (And.intro h2 (And.intro h3 h4)));clear h1 h2 h3 h4;go_wp2_with fail;(try go_ret)
      rw[HPO.out];obtain⟨h1,h2,h3,h4⟩:=HH.out;exact⟨by simp[h1,h2,h3,h4],HNB.out.trans HNX.out⟩
theorem KZ.nw {w0 w w':World} {B:Nat} (h:KZ B w w') (hB:w0.heap.size<=B) (n:New w0 w):New w0 w':=New.keeps n h (fun i hi ⟨hb,_⟩=>by omega)
theorem Bd.lt {w:World} {B b:Nat} {l:List UInt8} (h:Bd w B b l):b<w.heap.size∧B<=w.heap.size:=by
 obtain⟨p,a,c,-,h⟩:=h;have h1:=(Array.getElem?_eq_some_iff.1 h.bk).1;have h2:=h.hB;omega
theorem rU (w:World) (n:Int) (h0: -9223372036854775808<=n) (h1:n<=9223372036854775807) (he:Env w):
  Calls Tryz.prog 117 #[I n] w fun e w'=>e= .returned (.string (jL n))∧New w w':=by
 refine(Tryz.strconv_Itoa n h0 h1 w he.tab).mono ?_;rintro e w' ⟨rfl,k,os,rfl⟩;exact⟨rfl,((New.refl w).drewN k).trans (uR _ os)⟩
theorem oD (n:Int):(jL n).data.toList=Lib.itoa n:=rfl
theorem pG (n:Int) (h0: -9223372036854775808<=n) (h1:n<=9223372036854775807):(jL n).size<=21:=by
 have:=Lib.itoa_length_le n h0 h1;rw[<-am,oD];exact this
theorem wG (w0 w:World) (B b:Nat) (l:List UInt8) (he:Env w0) (hB:w0.heap.size<=B) (n0:New w0 w) (h:Bd w B b l) (fn:ByteArray) (fp fa:Int) (h0: -9223372036854775808<=fp) (h1:fp<=9223372036854775807) (hf:fn.size<=1000) (hl:l.length<=100000000):
  Calls Tryz.prog 116 #[.pointer (some ⟨b,0,none⟩),.agg #[.string fn,I fp,I fa]] w fun e w'=>e= .returned (.tuple #[])∧Bd w' B b (l++dL fn fp)∧KZ B w w':=by
 have nb:New w (w.alloc (.cells #[.string fn,I fp,I fa] 103)):=(New.refl w).alloc _;have hbk:=tZ w (.string fn) (I fp) (I fa);obtain⟨c0,c1,c2,-,hR⟩:=gK hbk;have HBK:=Lib.hid hbk;have hb1:=h.new nb;have hw1:=iz _ B b l fn hb1 (by omega) hb1.lt.2;have kb:KZ B w (w.alloc (.cells #[.string fn,I fp,I fa] 103)):=KY.of_new nb;have hfl:(l++fn.data.toList).length<=100001000:=by rw[List.length_append,am];omega
 have HL:=Lib.hid hfl;have KB:=Lib.hid kb;have HN:=Lib.hid n0;clear hbk h hb1 nb kb hfl;go_enter Tryz.func116,Tryz.ntmps116;go_wp2_with fail;refine hw1.mono ?_;rintro e w1 ⟨rfl,b1,k1⟩;have K1:=Lib.hid (KB.out.trans k1);have vQ:=k1.heap HBK.out (by simp[bdO]);obtain⟨x0,x1,x2,-,hR1⟩:=gK vQ;have zQ:=Lib.hid vQ;have hw2:=wZ w1 B b _ 46 b1 (by have:=HL.out;omega) b1.lt.2;clear hw1 k1 vQ c0 c1 c2 hR;go_wp2_with fail;refine hw2.mono ?_;rintro e w2 ⟨rfl,b2,k2⟩;have K2:=Lib.hid (K1.out.trans k2);have qF:=k2.heap zQ.out (by simp[bdO]);obtain⟨y0,y1,y2,-,hR2⟩:=gK qF;have HB2:=Lib.hid b2;have hit:=rU w2 fp h0 h1 (he.new (KZ.nw K2.out hB HN.out));clear hw2 k2 qF x0 x1 x2 hR1 b1 b2;go_wp2_with fail;refine hit.mono ?_;rintro e w3 ⟨rfl,n3⟩;have b3:=HB2.out.new n3;have hw3:=iz w3 B b _ (jL fp) b3 (by have:=HL.out;have:=pG fp h0 h1;rw[List.length_append];simp only[List.length_singleton];omega) b3.lt.2;have K3:=Lib.hid (K2.out.trans (KY.of_new n3));clear hit n3 b3;go_wp2_with fail;refine hw3.mono ?_;rintro e w4 ⟨rfl,b4,k4⟩;go_wp2_with fail;go_end0
 refine⟨rfl,?_,K3.out.trans k4⟩;rw[oD] at b4;unfold dL;rw[show l++(fn.data.toList++46::Lib.itoa fp)=l++fn.data.toList++[46]++Lib.itoa fp by simp];exact b4
theorem dV {s:ByteArray} (h:aQ s=true):s.size<=16:=by
 rw[gy] at h;rw[<-am];cases hs:s.data.toList with
 |nil=>simp
 |cons c r=>
  rw[hs] at h;simp only[fS,Bool.and_eq_true,decide_eq_true_iff] at h;have:=h.2.2;simp only[List.length_cons];omega
theorem t6 (n:ByteArray) (p:Int) (h:n.size<=16) (h0: -9223372036854775808<=p) (h1:p<=9223372036854775807):(dL n p).length<=38:=by
 unfold dL;have:=Lib.itoa_length_le p h0 h1;rw[List.length_append,List.length_cons,am];omega
theorem tS (xs:List Int) (k:Nat) (h:k<xs.length):bL (xs.take (k+1))=bL (xs.take k)++32::Lib.itoa xs[k]:=by
 unfold bL;rw[List.take_succ_eq_append_getElem h,List.flatMap_append];simp
theorem wu (xs:List Int) (k:Nat):bL (xs.take k)<+:bL xs:=by
 unfold bL;conv=>rhs;rw[<-List.take_append_drop k xs]
 rw[List.flatMap_append];exact List.prefix_append _ _
def uA (w:World) (B b:Nat) (l:List UInt8) (x:SIt) (e:Ending) (w':World):Prop:=e= .returned (.tuple #[])∧KZ B w w'∧∃l',Bd w' B b (l++l')∧l'<+:cl x∧(l'=cl x∨1048576<(l++l').length)∧(l++l').length<=1048800
structure IBnd (x:SIt):Prop where
 p0: -9223372036854775808<=x.fp∧x.fp<=9223372036854775807
 p1: -9223372036854775808<=x.tp∧x.tp<=9223372036854775807
 xs:∀n∈x.xs,-9223372036854775808<=n∧n<=9223372036854775807
 ln:x.xs.length<=9223372036854775807
theorem xj {w w':World} {B b:Nat} {l L0:List UInt8} {x:SIt} {e:Ending} (he:e= .returned (.tuple #[])) (hk:KZ B w w') (h0:L0=l++ft x) (hb:Bd w' B b (L0++bL x.xs++[59,10])) (hl:(L0++bL x.xs).length<=1048700):uA w B b l x e w':=by
 subst h0;refine⟨he,hk,cl x,?_,List.prefix_refl _,.inl rfl,?_⟩
 ·unfold cl;have e:l++(ft x++bL x.xs++[59,10])=l++ft x++bL x.xs++[59,10]:=by simp
  rw[e];exact hb
 ·unfold cl;have e:l++(ft x++bL x.xs++[59,10])=(l++ft x++bL x.xs)++[59,10]:=by simp
  rw[e,List.length_append];simp only[List.length_cons,List.length_nil];omega
theorem xh {w w':World} {B b:Nat} {l L0:List UInt8} {x:SIt} {e:Ending} {k:Nat} (he:e= .returned (.tuple #[])) (hk:KZ B w w') (h0:L0=l++ft x) (hb:Bd w' B b (L0++bL (x.xs.take k))) (hl:(L0++bL (x.xs.take k)).length<=1048700) (gQ:1048576<(L0++bL (x.xs.take k)).length):uA w B b l x e w':=by
 subst h0;refine⟨he,hk,ft x++bL (x.xs.take k),by rw[<-List.append_assoc];exact hb,?_,.inr (by rw[<-List.append_assoc];exact gQ),by rw[<-List.append_assoc];omega⟩;obtain⟨r,hr⟩:=wu x.xs k;refine⟨r++[59,10],?_⟩;unfold cl;rw[<-hr];simp
theorem pu (A B:ByteArray) (a b:Nat) (ha:A.size<=a) (hb:B.size<=b) (hn:a+b<=1000):∃S:ByteArray,S.size<=a+b∧S.data.toList=A.data.toList++B.data.toList∧∀w:World,(Op.stringOp .add A B).run Tryz.prog w= .ok (.string S) w:=
 ⟨A++B,by rw[ByteArray.size_append];omega,by rw[ByteArray.data_append,Array.toList_append],fun w=>run_string_add_sum w _ _ (by omega)⟩
def WrS (w:World) (B b:Nat) (cs:Array Value) (L:List UInt8) (n:Nat) (w':World):Prop:=Bd w' B b L∧KZ B w w'∧w'.heap[w.heap.size]? =some (.cells cs ItT (0,0))∧L.length<=n
theorem WrS.str {w w1:World} {B b n:Nat} {cs:Array Value} {L:List UInt8} (h:WrS w B b cs L n w1) (s:ByteArray) (m:Nat) (hs:s.size<=m) (hn:n+m<=2000000):
  Calls Tryz.prog 73 #[.pointer (some ⟨b,0,none⟩),.string s] w1 fun e w'=>e= .returned (.tuple #[.int .i64 s.size,.nilIface])∧WrS w B b cs (L++s.data.toList) (n+m) w':=
 (iz w1 B b L s h.1 (by have:=h.2.2.2;omega) h.1.lt.2).mono fun _ _ ⟨he,hb,hk⟩=>⟨he,hb,h.2.1.trans hk,hk.heap h.2.2.1 rfl,by have:=h.2.2.2;rw[List.length_append,am];omega⟩
theorem WrS.place {w0 w w1:World} {B b n:Nat} {cs:Array Value} {L:List UInt8} (h:WrS w B b cs L n w1) (he:Env w0) (hB:w0.heap.size<=B) (n0:New w0 w) (fn:ByteArray) (fp fa:Int) (h0: -9223372036854775808<=fp) (h1:fp<=9223372036854775807) (hf:fn.size<=16) (hn:n<=2000000):
  Calls Tryz.prog 116 #[.pointer (some ⟨b,0,none⟩),.agg #[.string fn,I fp,I fa]] w1 fun e w'=>e= .returned (.tuple #[])∧WrS w B b cs (L++dL fn fp) (n+38) w':=
 (wG w0 w1 B b L he hB (KZ.nw h.2.1 hB n0) h.1 fn fp fa h0 h1 (by omega) (by have:=h.2.2.2;omega)).mono fun _ _ ⟨e,hb,hk⟩=>⟨e,hb,h.2.1.trans hk,hk.heap h.2.2.1 rfl,by have:=h.2.2.2;have:=t6 fn fp hf h0 h1;rw[List.length_append];omega⟩
theorem xg (w0 w:World) (B b:Nat) (l:List UInt8) (he:Env w0) (hB:w0.heap.size<=B) (n0:New w0 w) (h:Bd w B b l) (x:SIt) (hx:ar w0 x.a (Is x.xs)) (hr:bD x=true) (hd:IBnd x) (hl:l.length<=1048576):
  Calls Tryz.prog 75 #[.pointer (some ⟨b,0,none⟩),.agg (itA x)] w (uA w B b l x):=by
 obtain⟨kind,name,tag,sa,sc,xs,fn,fp,fa,tn,tp,ta,at_⟩:=x;have hk:kind=1∨kind=2∨kind=3∨kind=4:=by
  unfold bD at hr;simp only at hr;(repeat' split at hr)<;>simp_all
 have nb:New w (w.alloc (.cells #[.int .u8 kind,.string name,.string tag,.slice sa xs.length sc,.string fn,I fp,I fa,.string tn,I tp,I ta,I at_] ItT)):=(New.refl w).alloc _;have hbk:(w.alloc (.cells #[.int .u8 kind,.string name,.string tag,.slice sa xs.length sc,.string fn,I fp,I fa,.string tn,I tp,I ta,I at_] ItT)).heap[w.heap.size]? =some (.cells #[.int .u8 kind,.string name,.string tag,.slice sa xs.length sc,.string fn,I fp,I fa,.string tn,I tp,I ta,I at_] ItT (0,0)):=heap_alloc_new w _;obtain⟨⟨c0,c1,c2,c3,c4,c5,c6,c7,c8,c9,c10⟩,-,hX⟩:=aF hbk;have HS:Hid (WrS w B b #[.int .u8 kind,.string name,.string tag,.slice sa xs.length sc,.string fn,I fp,I fa,.string tn,I tp,I ta,I at_] l 1048576 (w.alloc (.cells #[.int .u8 kind,.string name,.string tag,.slice sa xs.length sc,.string fn,I fp,I fa,.string tn,I tp,I ta,I at_] ItT))):=Lib.hid ⟨h.new nb,KY.of_new nb,hbk,hl⟩;have HN:=Lib.hid n0;have HX:=Lib.hid hx;have HD:=Lib.hid hd;have HR:=Lib.hid hr;have HKi:=Lib.hid hk;obtain⟨fp0,fp1⟩:=hd.p0;obtain⟨tp0,tp1⟩:=hd.p1;have hln:=hd.ln;simp only at fp0 fp1 tp0 tp1 hln;obtain⟨PO,hPO⟩:∃PO:Ending->World->Prop,PO=uA w B b l ⟨kind,name,tag,sa,sc,xs,fn,fp,fa,tn,tp,ta,at_⟩:=⟨_,rfl⟩
 rw[<-hPO];have HPO:=Lib.hid hPO;clear h hbk nb hl hx hd n0 hPO hr hk;go_enter Tryz.func75,Tryz.ntmps75;go_upto_block 0 with fail
 go_cut [7] from 8 (fun _ w'=>Hid (∃L,L=l++ft ⟨kind,name,tag,sa,sc,xs,fn,fp,fa,tn,tp,ta,at_⟩∧WrS w B b #[.int .u8 kind,.string name,.string tag,.slice sa xs.length sc,.string fn,I fp,I fa,.string tn,I tp,I ta,I at_] L 1048700 w'))
 case rest=>
  clear c0 c1 c2 c3 c4 c5 c6 c7 c8 c9 c10 hX HS;obtain⟨L0,hLe,hS⟩:=hcut.out;obtain⟨⟨-,-,-,c3,-⟩,-,hX⟩:=aF hS.2.2.1;have HLE:=Lib.hid hLe;have HS0:Hid (Bd wc B b (L0++bL (xs.take 0))∧KZ B w wc):=Lib.hid ⟨by simpa[bL] using hS.1,hS.2.1⟩;have HS1:Hid ((L0++bL (xs.take 0)).length<=1048700):=Lib.hid (by have h1:=hS.2.2.2;simp[bL];omega);clear hcut hLe hS;go_wp2_with fail;go_loopw [67] (fun i wr=>∃k:Nat,k<=xs.length∧i= .int .i64 k∧Hid (Bd wr B b (L0++bL (xs.take k))∧KZ B w wr)∧Hid ((L0++bL (xs.take k)).length<=1048700)) (fun i _=>xs.length-(intOf i).toNat)
  case atStart=>exact⟨0,by omega,rfl,HS0,HS1⟩
  case round=>
   clear HS0 HS1;obtain⟨k,hk,rfl,HS,HLn⟩:=hrel;by_cases hk1:k<xs.length
   ·have hkI:(k:Int)<(xs.length:Int):=by omega
    have hkd:decide (k<xs.length)=true:=decide_eq_true hk1;have hnw:=KZ.nw HS.out.2 hB HN.out;obtain⟨bb,off,hab,q0⟩:=(HX.out.new hnw) k (by simpa[Is] using hk1);have hv:(Is xs).getD k undef=I xs[k]:=by simp[Is,hk1]
    rw[hv] at q0;have hbw:=World.block_lt_of_cell? wr _ q0;obtain⟨v0,v1⟩:=HD.out.xs _ (List.getElem_mem hk1);have uJ:=tS xs k hk1;subst hab;generalize xs[k]=v at q0 v0 v1 uJ;have HSU:=Lib.hid uJ;have aU:=oe wr B b _ HS.out.1;by_cases gQ:1048576<(L0++bL (xs.take k)).length
    ·have hbI:(1048576:Int)<(((L0++bL (xs.take k)).length:Nat):Int):=by omega
     have HBG:=Lib.hid gQ;obtain⟨m,hm⟩:∃m,(L0++bL (xs.take k)).length=m:=⟨_,rfl⟩
     rw[hm] at aU hbI;clear hv uJ gQ hm hnw;go_wp2_with fail;refine aU.mono ?_;rintro e w' ⟨rfl,rfl⟩;go_wp2_with fail;(first|go_end0|refine bodyPost_ret (results_none (by kernel_rfl) _ _ _) rfl ?_|skip)
     rw[HPO.out];exact xh rfl HS.out.2 HLE.out HS.out.1 HLn.out HBG.out
    ·have hbI:¬(1048576:Int)<(((L0++bL (xs.take k)).length:Nat):Int):=by omega
     have HBG:=Lib.hid gQ;have Bq:=fun W (n:New wr W)=>rU W v v0 v1 (he.new (hnw.trans n))
     obtain⟨Sv,hSv⟩:∃S,jL v=S:=⟨_,rfl⟩
     have hSz:=pG v v0 v1;rw[hSv] at Bq hSz;have hSl:Sv.data.toList=Lib.itoa v:=by rw[<-hSv];rfl
     obtain⟨Sw,hSw⟩:∃S,(⟨#[32]⟩:ByteArray)++Sv=S:=⟨_,rfl⟩
     have CA:Sw.size=1+Sv.size:=by rw[<-hSw,ByteArray.size_append];rfl
     have Cz:Sw.data.toList=32::Lib.itoa v:=by rw[<-hSw,ByteArray.data_append,Array.toList_append,hSl];rfl
     have qD:∀w:World,(Op.stringOp .add (⟨#[32]⟩:ByteArray) Sv).run Tryz.prog w= .ok (.string Sw) w:=fun w=>by rw[<-hSw];exact run_string_add_sum w _ _ (by show 1+Sv.size<=_;omega)
     have HSW:=Lib.hid (And.intro CA Cz);have HSZ:=Lib.hid hSz;obtain⟨m,hm⟩:∃m,(L0++bL (xs.take k)).length=m:=⟨_,rfl⟩
     rw[hm] at aU hbI;clear hv uJ gQ hm hnw hSv hSl hSw CA Cz hSz;go_wp2_with fail;refine aU.mono ?_;rintro e w' ⟨rfl,rfl⟩;go_wp2_with fail;refine(Bq _ (New.refl _)).mono ?_;rintro e w2 ⟨rfl,n2⟩;have hw:=iz w2 B b _ Sw (HS.out.1.new n2) (by have h1:=HLn.out;have h2:=HSW.out.1;have h3:=HSZ.out;omega) (HS.out.1.new n2).lt.2;have HK2:=Lib.hid (HS.out.2.trans (KY.of_new n2));clear n2 Bq aU;go_wp2_with fail;refine hw.mono ?_;rintro e w3 ⟨rfl,b3,k3⟩;have HS3:=Lib.hid (And.intro b3 (HK2.out.trans k3));clear hw b3 k3 q0 hbw;go_wp2_with fail;go_roundw
     case rel=>
      refine⟨k+1,by omega,by go_num,Lib.hid ⟨?_,HS3.out.2⟩,Lib.hid ?_⟩
      ·rw[HSU.out,<-List.append_assoc,<-HSW.out.2];exact HS3.out.1
      ·rw[HSU.out,<-List.append_assoc,<-HSW.out.2,List.length_append,am];have h1:=HSW.out.1;have h3:=HSZ.out;have h4:=HBG.out;omega
     case measure=>simp[intOf];omega
   ·have hke:k=xs.length:=by omega
    have hkd:decide (k<xs.length)=false:=decide_eq_false hk1;have hk9:¬(k:Int)<(xs.length:Int):=by omega
    have HB9:Hid (Bd wr B b (L0++bL xs)∧(L0++bL xs).length<=1048700):=Lib.hid (by
     have h1:=HS.out.1;have h2:=HLn.out;rw[hke,List.take_length] at h1 h2;exact⟨h1,h2⟩)
    have hw:=iz wr B b _ (⟨#[59,10]⟩:ByteArray) HB9.out.1 (by have:=HB9.out.2;show _+2<=_;omega) HB9.out.1.lt.2;clear hke;go_wp2_with fail;refine hw.mono ?_;rintro e w3 ⟨rfl,b3,k3⟩;go_wp2_with fail;(first|go_end0|refine bodyPost_ret (results_none (by kernel_rfl) _ _ _) rfl ?_|skip)
    rw[HPO.out];exact xj rfl (HS.out.2.trans k3) HLE.out b3 HB9.out.2
 case first=>
  rcases HKi.out with rfl|rfl|rfl|rfl
  ·have hr:(aQ name&&aQ tag&&fY fn fp&&fY tn tp)=true:=HR.out;simp only[Bool.and_eq_true] at hr;obtain⟨⟨⟨hn,ht⟩,-⟩,-⟩:=hr;have n16:=dV hn;have t16:=dV ht;clear hn ht;obtain⟨S1,qI,lS1,xx⟩:=pu (⟨#[32,32,97,99,116,111,114,32]⟩:ByteArray) name 8 16 (by decide) n16 (by omega);obtain⟨S2,vV,lS2,AP⟩:=pu S1 (⟨#[32,61,32]⟩:ByteArray) 24 3 qI (by decide) (by omega);obtain⟨S3,D2,lS3,D8⟩:=pu S2 tag 27 16 vV t16 (by omega);go_wp2_with fail;refine(HS.out.str S3 43 D2 (by omega)).mono ?_;rintro e w1 ⟨rfl,hs⟩;clear HS c0 c1 c2 c3 c4 c5 c6 c7 c8 c9 c10 hX;obtain⟨⟨c0,c1,c2,c3,c4,c5,c6,c7,c8,c9,c10⟩,-,hX⟩:=aF hs.2.2.1;have HS:=Lib.hid hs;clear hs;go_wp2_with fail;go_meet
   case rel=>exact Lib.hid ⟨_,by simp[ft,lS3,lS2,lS1],HS.out.1,HS.out.2.1,HS.out.2.2.1,Nat.le_trans HS.out.2.2.2 (by omega)⟩
  ·have hr:(dI name&&dI tag&&aQ fn&&aQ tn)=true:=HR.out;simp only[Bool.and_eq_true] at hr;obtain⟨⟨⟨-,-⟩,hf⟩,ho⟩:=hr;have f16:=dV hf;have t16:=dV ho;clear hf ho;go_wp2_with fail;refine(HS.out.str (⟨#[32,32,101,100,103,101,32]⟩:ByteArray) 7 (by decide) (by omega)).mono ?_;rintro e w1 ⟨rfl,hs⟩;clear HS c0 c1 c2 c3 c4 c5 c6 c7 c8 c9 c10 hX;obtain⟨⟨c0,c1,c2,c3,c4,c5,c6,c7,c8,c9,c10⟩,-,hX⟩:=aF hs.2.2.1;have HS:=Lib.hid hs;clear hs;go_wp2_with fail;refine(HS.out.place he hB HN.out fn fp fa fp0 fp1 f16 (by omega)).mono ?_;rintro e w1 ⟨rfl,hs⟩;clear HS c0 c1 c2 c3 c4 c5 c6 c7 c8 c9 c10 hX;obtain⟨⟨c0,c1,c2,c3,c4,c5,c6,c7,c8,c9,c10⟩,-,hX⟩:=aF hs.2.2.1;have HS:=Lib.hid hs;clear hs;go_wp2_with fail;refine(HS.out.str (⟨#[32,45,62,32]⟩:ByteArray) 4 (by decide) (by omega)).mono ?_;rintro e w1 ⟨rfl,hs⟩;clear HS c0 c1 c2 c3 c4 c5 c6 c7 c8 c9 c10 hX;obtain⟨⟨c0,c1,c2,c3,c4,c5,c6,c7,c8,c9,c10⟩,-,hX⟩:=aF hs.2.2.1;have HS:=Lib.hid hs;clear hs;go_wp2_with fail;refine(HS.out.place he hB HN.out tn tp ta tp0 tp1 t16 (by omega)).mono ?_;rintro e w1 ⟨rfl,hs⟩;clear HS c0 c1 c2 c3 c4 c5 c6 c7 c8 c9 c10 hX;obtain⟨⟨c0,c1,c2,c3,c4,c5,c6,c7,c8,c9,c10⟩,-,hX⟩:=aF hs.2.2.1;have HS:=Lib.hid hs;clear hs;by_cases hxs:xs=[]
   ·have hxl:¬(0:Int)<(xs.length:Int):=by rw[hxs];simp
    have hxd:decide (0<xs.length)=false:=by rw[hxs];rfl
    have HXS:=Lib.hid hxs;clear hxs;go_wp2_with fail;go_meet
    case rel=>exact Lib.hid ⟨_,by simp[ft,HXS.out],HS.out.1,HS.out.2.1,HS.out.2.2.1,Nat.le_trans HS.out.2.2.2 (by omega)⟩
   ·have hxl:(0:Int)<(xs.length:Int):=by have:=List.length_pos_iff.2 hxs;omega
    have hxd:decide (0<xs.length)=true:=decide_eq_true (List.length_pos_iff.2 hxs);have HXS:=Lib.hid hxs;clear hxs;go_wp2_with fail;refine(HS.out.str (⟨#[32,119,105,116,104]⟩:ByteArray) 5 (by decide) (by omega)).mono ?_;rintro e w1 ⟨rfl,hs⟩;clear HS c0 c1 c2 c3 c4 c5 c6 c7 c8 c9 c10 hX;obtain⟨⟨c0,c1,c2,c3,c4,c5,c6,c7,c8,c9,c10⟩,-,hX⟩:=aF hs.2.2.1;have HS:=Lib.hid hs;clear hs;go_wp2_with fail;go_meet
    case rel=>exact Lib.hid ⟨_,by simp[ft,HXS.out],HS.out.1,HS.out.2.1,HS.out.2.2.1,Nat.le_trans HS.out.2.2.2 (by omega)⟩
  ·have hr:(aQ name&&dI tag&&(xs.length==0)&&fY fn fp&&aQ tn)=true:=HR.out;simp only[Bool.and_eq_true] at hr;obtain⟨⟨⟨⟨hn,-⟩,-⟩,-⟩,ho⟩:=hr;have n16:=dV hn;have t16:=dV ho;clear hn ho;obtain⟨S1,qI,lS1,xx⟩:=pu (⟨#[32,32,105,110,32]⟩:ByteArray) name 5 16 (by decide) n16 (by omega);obtain⟨S2,vV,lS2,AP⟩:=pu S1 (⟨#[32,45,62,32]⟩:ByteArray) 21 4 qI (by decide) (by omega);go_wp2_with fail;refine(HS.out.str S2 25 vV (by omega)).mono ?_;rintro e w1 ⟨rfl,hs⟩;clear HS c0 c1 c2 c3 c4 c5 c6 c7 c8 c9 c10 hX;obtain⟨⟨c0,c1,c2,c3,c4,c5,c6,c7,c8,c9,c10⟩,-,hX⟩:=aF hs.2.2.1;have HS:=Lib.hid hs;clear hs;go_wp2_with fail;refine(HS.out.place he hB HN.out tn tp ta tp0 tp1 t16 (by omega)).mono ?_;rintro e w1 ⟨rfl,hs⟩;clear HS c0 c1 c2 c3 c4 c5 c6 c7 c8 c9 c10 hX;obtain⟨⟨c0,c1,c2,c3,c4,c5,c6,c7,c8,c9,c10⟩,-,hX⟩:=aF hs.2.2.1;have HS:=Lib.hid hs;clear hs;go_wp2_with fail;go_meet
   case rel=>exact Lib.hid ⟨_,by simp[ft,lS2,lS1],HS.out.1,HS.out.2.1,HS.out.2.2.1,Nat.le_trans HS.out.2.2.2 (by omega)⟩
  ·have hr:(aQ name&&dI tag&&(xs.length==0)&&aQ fn&&fY tn tp)=true:=HR.out;simp only[Bool.and_eq_true] at hr;obtain⟨⟨⟨⟨hn,-⟩,-⟩,hf⟩,-⟩:=hr;have n16:=dV hn;have f16:=dV hf;clear hn hf;obtain⟨S1,qI,lS1,xx⟩:=pu (⟨#[32,45,62,32]⟩:ByteArray) name 4 16 (by decide) n16 (by omega);go_wp2_with fail;refine(HS.out.str (⟨#[32,32,111,117,116,32]⟩:ByteArray) 6 (by decide) (by omega)).mono ?_;rintro e w1 ⟨rfl,hs⟩;clear HS c0 c1 c2 c3 c4 c5 c6 c7 c8 c9 c10 hX;obtain⟨⟨c0,c1,c2,c3,c4,c5,c6,c7,c8,c9,c10⟩,-,hX⟩:=aF hs.2.2.1;have HS:=Lib.hid hs;clear hs;go_wp2_with fail;refine(HS.out.place he hB HN.out fn fp fa fp0 fp1 f16 (by omega)).mono ?_;rintro e w1 ⟨rfl,hs⟩;clear HS c0 c1 c2 c3 c4 c5 c6 c7 c8 c9 c10 hX;obtain⟨⟨c0,c1,c2,c3,c4,c5,c6,c7,c8,c9,c10⟩,-,hX⟩:=aF hs.2.2.1;have HS:=Lib.hid hs;clear hs;go_wp2_with fail;refine(HS.out.str S1 20 qI (by omega)).mono ?_;rintro e w1 ⟨rfl,hs⟩;clear HS c0 c1 c2 c3 c4 c5 c6 c7 c8 c9 c10 hX;obtain⟨⟨c0,c1,c2,c3,c4,c5,c6,c7,c8,c9,c10⟩,-,hX⟩:=aF hs.2.2.1;have HS:=Lib.hid hs;clear hs;go_wp2_with fail;go_meet
   case rel=>exact Lib.hid ⟨_,by simp[ft,lS1],HS.out.1,HS.out.2.1,HS.out.2.2.1,Nat.le_trans HS.out.2.2.2 (by omega)⟩
def fL (w:World) (G:Nat) (l:List LTok) (a:Option Addr) (c:Nat) (res:PR LIt) (e:Ending) (w':World):Prop:=match res with
 | .bad j=>xr w G l j e w'
 | .good x k=>∃ao co,e= .returned (.agg (itA (x.mem ao co)))∧bc w' w.heap.size ao co x.xs∧PAt w' G l a c k∧Keeps (fun b=>b=G) w w'
theorem jY {w:World} {R:Nat} {x0 x1 x2 x3 x4 x5 x6 x7 x8 x9 x10:Value} (h:w.heap[R]? =some (.cells #[x0,x1,x2,x3,x4,x5,x6,x7,x8,x9,x10] ItT (0,0))) (u0 u1 u2 u3 u4 u5 u6 u7 u8 u9 u10:Value):
  (((((((((((w.setCell ⟨R,0,none⟩ u0).setCell ⟨R,1,none⟩ u1).setCell ⟨R,2,none⟩ u2).setCell ⟨R,3,none⟩ u3).setCell ⟨R,4,none⟩ u4).setCell ⟨R,5,none⟩ u5).setCell ⟨R,6,none⟩ u6).setCell ⟨R,7,none⟩ u7).setCell ⟨R,8,none⟩ u8).setCell ⟨R,9,none⟩ u9).setCell ⟨R,10,none⟩ u10).heap[R]? =some (.cells #[u0,u1,u2,u3,u4,u5,u6,u7,u8,u9,u10] ItT (0,0))∧
  Keeps (fun k=>k=R) w (((((((((((w.setCell ⟨R,0,none⟩ u0).setCell ⟨R,1,none⟩ u1).setCell ⟨R,2,none⟩ u2).setCell ⟨R,3,none⟩ u3).setCell ⟨R,4,none⟩ u4).setCell ⟨R,5,none⟩ u5).setCell ⟨R,6,none⟩ u6).setCell ⟨R,7,none⟩ u7).setCell ⟨R,8,none⟩ u8).setCell ⟨R,9,none⟩ u9).setCell ⟨R,10,none⟩ u10):=by
 have h0:=block_setCell (i:=0) h u0;have h1:=block_setCell (i:=1) h0 u1;have h2:=block_setCell (i:=2) h1 u2;have h3:=block_setCell (i:=3) h2 u3;have h4:=block_setCell (i:=4) h3 u4;have h5:=block_setCell (i:=5) h4 u5;have h6:=block_setCell (i:=6) h5 u6;have h7:=block_setCell (i:=7) h6 u7;have h8:=block_setCell (i:=8) h7 u8;have h9:=block_setCell (i:=9) h8 u9;have h10:=block_setCell (i:=10) h9 u10;refine⟨by rw[h10];simp,?_⟩;have t:∀(W:World) (i:Nat) (v:Value),Keeps (fun k=>k=R) w W->Keeps (fun k=>k=R) w (W.setCell ⟨R,i,none⟩ v):=fun W i v hW=>hW.trans (Keeps.setCell (S:=fun k=>k=R) W ⟨R,i,none⟩ v rfl) (fun _ _ h=>h)
 exact t _ _ _ (t _ _ _ (t _ _ _ (t _ _ _ (t _ _ _ (t _ _ _ (t _ _ _ (t _ _ _ (t _ _ _ (t _ _ _ (t _ _ _ (Keeps.refl _ w)))))))))))
theorem dT.edge {l:List LTok} (h:dT l) {k m at_:Nat} {x:LIt} (hp:fE at_ l k= .good x m):m<l.length∧k<m:=by
 unfold fE at hp;obtain⟨n,k1,h1,hp⟩:=PR.bind_inv hp;obtain⟨_,k2,h2,hp⟩:=PR.bind_inv hp;obtain⟨g,k3,h3,hp⟩:=PR.bind_inv hp;obtain⟨xs,k4,h4,hp⟩:=PR.bind_inv hp;cases hp
 have a:=h.place h1;have b:=h.must h2 (by decide);have c:=h.place h3;have d:=h.withP c.1 h4;exact⟨d.1,by omega⟩
theorem ge {l:List LTok} {k:Nat} {so:Int} {tx:List UInt8} {nu:Int} {at_:Nat} (h:l[k]? =some ⟨so,tx,nu,at_⟩):bN l k=(if so=1∧tx=fN then fA at_ l (k+1) else if so=1∧tx=ib then fE at_ l (k+1) else if so=1∧tx=inW then inP at_ l (k+1) else if so=1∧tx=mH then lv at_ l (k+1) else .bad k).bind fun x k1=>(bC 3 [59] l k1).bind fun _ k2=> .good x k2:=by
 unfold bN fZ;rw[h]
theorem gJ {T:ByteArray} {tx b:List UInt8} (h:T.toList=b ↔ tx=b) (hn:tx≠b):(T.toList==b)=false:=by
 cases hh:(T.toList==b) with
 |false=>rfl
 |true=>exact absurd (h.1 (by simpa using hh)) hn
theorem mu {T:ByteArray} {tx b:List UInt8} (h:T.toList=b ↔ tx=b) (hn:tx=b):(T.toList==b)=true:=by simp[h.2 hn]
theorem ItS.fin {w W0 w':World} {G X:Nat} (n:New w W0) (h:Keeps (fun b=>b=G∨b=X) W0 w') (hX:w.heap.size<=X):Keeps (fun b=>b=G) w w':=
 (Keeps.mono n (fun _ _ h=>h.elim)).trans h (fun i hi hs=>by rcases hs with hs|hs;exact hs;omega)
theorem ItS.here {w0:World} {G X:Nat} {l:List LTok} {a:Option Addr} {c k:Nat} {cs:Array Value} {wr:World} (h:ItS w0 G X l a c k cs wr):ItS wr G X l a c k cs wr:=⟨h.p,h.b,Keeps.refl _ _,h.ne,h.na⟩
theorem bc.base {w:World} {B B':Nat} {a:Option Addr} {c:Nat} {xs:List Int} (h:bc w B a c xs) (hb:B'<=B):bc w B' a c xs:=eO h (fun k hk=>by have:=(ai h (aM hk)).1;omega)
theorem bc.it {w w':World} {B X:Nat} {a:Option Addr} {c:Nat} {xs:List Int} (h:bc w B a c xs) {cs:Array Value} {e:TypeId} (hb:w.heap[X]? =some (.cells cs e (0,0))) (he:e≠3) (k:Keeps (fun b=>b=X) w w'):bc w' B a c xs:=
 al h k (fun g hg=>⟨_,_,_,hg▸hb,he⟩)
theorem tY (w:World) (G:Nat) (l:List LTok) (a:Option Addr) (c k:Nat) (he:dT l) (h:PAt w G l a c k) (so:Int) (tx:List UInt8) (nu:Int) (at_:Nat) (hg:l[k]? =some ⟨so,tx,nu,at_⟩) (hs:so≠1):
  Calls Tryz.prog 52 #[.pointer (some ⟨G,0,none⟩)] w (fL w G l a c (bN l k)):=by
 have hk:k<l.length:=(List.getElem?_eq_some_iff.1 hg).1;have hle:=h.le;have hGw:=h.lt;have HOB:Hid (∀g,blk a g->g<w.heap.size):=Lib.hid (fun g hg=>h.old (by omega) hg);have HIP:=Lib.hid (ge hg);have HNX:=Lib.hid (he.next hg);obtain⟨res,hre⟩:∃r,bN l k=r:=⟨_,rfl⟩
 rw[hre];have da:=Lib.hid hre;clear hre;obtain⟨T,hT⟩:∃T:ByteArray,(⟨tx.toArray⟩:ByteArray)=T:=⟨_,rfl⟩
 have n0:New w (w.alloc (.cells #[.int .u8 0,.string ⟨#[]⟩,.string ⟨#[]⟩,.slice none 0 0,.string ⟨#[]⟩,I 0,I 0,.string ⟨#[]⟩,I 0,I 0,I 0] ItT)):=(New.refl w).alloc _;have hbR:(w.alloc (.cells #[.int .u8 0,.string ⟨#[]⟩,.string ⟨#[]⟩,.slice none 0 0,.string ⟨#[]⟩,I 0,I 0,.string ⟨#[]⟩,I 0,I 0,I 0] ItT)).heap[w.heap.size]? =some (.cells #[.int .u8 0,.string ⟨#[]⟩,.string ⟨#[]⟩,.slice none 0 0,.string ⟨#[]⟩,I 0,I 0,.string ⟨#[]⟩,I 0,I 0,I 0] ItT (0,0)):=heap_alloc_new w _;have hnx:=cY _ G l a c k (h.new n0) hk _ hg;simp only[iB,hT] at hnx;have H:=Lib.hid h;have HBR:=Lib.hid hbR;have HN0:=Lib.hid n0;have htx:=fun b=>gR tx b
 rw[hT] at htx;have d1:(so != 1)=true:=by simpa using hs
 have HRW:Hid (bN l k= .bad k):=Lib.hid (by rw[HIP.out,if_neg (fun h=>hs h.1),if_neg (fun h=>hs h.1),if_neg (fun h=>hs h.1),if_neg (fun h=>hs h.1)];rfl);clear h hT hbR n0 htx hs hg;go_enter Tryz.func52,Tryz.ntmps52;go_wp2_with fail;refine hnx.mono ?_;rintro e w1 ⟨rfl,n1⟩;have n2:New w1 (w1.alloc (.cells #[.int .u8 so,.string T,I nu,I (at_:Int)] 98)):=(New.refl w1).alloc _;have hbF:=fX w1 (.int .u8 so) (.string T) (I nu) (I (at_:Int));obtain⟨p0,p1,p2,p3,-,hp⟩:=eX hbF;have N2:=Lib.hid ((HN0.out.trans n1).trans n2);have hs1:w.heap.size<w1.heap.size:=by have:=n1.size;simp at this;omega
 have hwr:=ir _ G l a c k (H.out.new N2.out) hk;clear n1 n2 hbF hnx p1 p2 p3;go_wp2_with fail;refine hwr.mono ?_;rintro e w3 ⟨rfl,n3⟩;go_wp2
 refine bF rfl ?_;rw[<-da.out,HRW.out];exact⟨rfl,KN (N2.out.trans n3)⟩
theorem sn (w:World) (G:Nat) (l:List LTok) (a:Option Addr) (c k:Nat) (he:dT l) (h:PAt w G l a c k) (tx:List UInt8) (nu:Int) (at_:Nat) (hg:l[k]? =some ⟨1,tx,nu,at_⟩) (qN:tx≠fN) (tM:tx≠ib) (BH:tx≠inW) (yV:tx≠mH):
  Calls Tryz.prog 52 #[.pointer (some ⟨G,0,none⟩)] w (fL w G l a c (bN l k)):=by
 have hk:k<l.length:=(List.getElem?_eq_some_iff.1 hg).1;have hle:=h.le;have hGw:=h.lt;have HOB:Hid (∀g,blk a g->g<w.heap.size):=Lib.hid (fun g hg=>h.old (by omega) hg);have HIP:=Lib.hid (ge hg);have HNX:=Lib.hid (he.next hg);obtain⟨res,hre⟩:∃r,bN l k=r:=⟨_,rfl⟩
 rw[hre];have da:=Lib.hid hre;clear hre;obtain⟨T,hT⟩:∃T:ByteArray,(⟨tx.toArray⟩:ByteArray)=T:=⟨_,rfl⟩
 have n0:New w (w.alloc (.cells #[.int .u8 0,.string ⟨#[]⟩,.string ⟨#[]⟩,.slice none 0 0,.string ⟨#[]⟩,I 0,I 0,.string ⟨#[]⟩,I 0,I 0,I 0] ItT)):=(New.refl w).alloc _;have hbR:(w.alloc (.cells #[.int .u8 0,.string ⟨#[]⟩,.string ⟨#[]⟩,.slice none 0 0,.string ⟨#[]⟩,I 0,I 0,.string ⟨#[]⟩,I 0,I 0,I 0] ItT)).heap[w.heap.size]? =some (.cells #[.int .u8 0,.string ⟨#[]⟩,.string ⟨#[]⟩,.slice none 0 0,.string ⟨#[]⟩,I 0,I 0,.string ⟨#[]⟩,I 0,I 0,I 0] ItT (0,0)):=heap_alloc_new w _;have hnx:=cY _ G l a c k (h.new n0) hk _ hg;simp only[iB,hT] at hnx;have H:=Lib.hid h;have HBR:=Lib.hid hbR;have HN0:=Lib.hid n0;have htx:=fun b=>gR tx b
 rw[hT] at htx;have nM:=gJ (htx [97,99,116,111,114]) qN;have uq:=gJ (htx [101,100,103,101]) tM;have C5:=gJ (htx [105,110]) BH;have C6:=gJ (htx [111,117,116]) yV;have d1:((1:Int) != 1)=false:=by decide
 have HRW:Hid (bN l k= .bad k):=Lib.hid (by rw[HIP.out,if_neg (fun h=>qN h.2),if_neg (fun h=>tM h.2),if_neg (fun h=>BH h.2),if_neg (fun h=>yV h.2)];rfl);clear h hT hbR n0 htx hg qN tM BH yV;go_enter Tryz.func52,Tryz.ntmps52;go_wp2_with fail;refine hnx.mono ?_;rintro e w1 ⟨rfl,n1⟩;have n2:New w1 (w1.alloc (.cells #[.int .u8 1,.string T,I nu,I (at_:Int)] 98)):=(New.refl w1).alloc _;have hbF:=fX w1 (.int .u8 1) (.string T) (I nu) (I (at_:Int));obtain⟨p0,p1,p2,p3,-,hp⟩:=eX hbF;have N2:=Lib.hid ((HN0.out.trans n1).trans n2);have hs1:w.heap.size<w1.heap.size:=by have:=n1.size;simp at this;omega
 have hIS:ItS ((w1.alloc (.cells #[.int .u8 1,.string T,I nu,I (at_:Int)] 98)).alloc (.cells (cJ at_) ItT)) G (w1.heap.size+1) l a c k (cJ at_) ((w1.alloc (.cells #[.int .u8 1,.string T,I nu,I (at_:Int)] 98)).alloc (.cells (cJ at_) ItT)):=
  ⟨H.out.new (N2.out.alloc _),by have:=heap_alloc_new (w1.alloc (.cells #[.int .u8 1,.string T,I nu,I (at_:Int)] 98)) (.cells (cJ at_) ItT);simpa using this,Keeps.refl _ _,by omega,fun h=>by have:=HOB.out _ h;omega⟩
 have hRb:((w1.alloc (.cells #[.int .u8 1,.string T,I nu,I (at_:Int)] 98)).alloc (.cells (cJ at_) ItT)).heap[w.heap.size]? =some (.cells #[.int .u8 0,.string ⟨#[]⟩,.string ⟨#[]⟩,.slice none 0 0,.string ⟨#[]⟩,I 0,I 0,.string ⟨#[]⟩,I 0,I 0,I 0] ItT (0,0)):=Keeps.heap ((n1.trans n2).alloc _) HBR.out (fun h=>h);have HRB:=Lib.hid hRb;have NW:=Lib.hid (N2.out.alloc (.cells (cJ at_) ItT));have hXw:w.heap.size<=w1.heap.size+1:=by omega
 clear hRb n1 n2 hbF hnx;have hwr:=ir _ G l a c k hIS.p hk;clear hIS;go_wp2_with fail;refine hwr.mono ?_;rintro e w3 ⟨rfl,n3⟩;go_wp2
 refine bF rfl ?_;rw[<-da.out,HRW.out];exact⟨rfl,KN (NW.out.trans n3)⟩
theorem sj (w:World) (G:Nat) (l:List LTok) (a:Option Addr) (c k:Nat) (he:dT l) (h:PAt w G l a c k) (tx:List UInt8) (nu:Int) (at_:Nat) (hg:l[k]? =some ⟨1,tx,nu,at_⟩) (hw:tx=fN):
  Calls Tryz.prog 52 #[.pointer (some ⟨G,0,none⟩)] w (fL w G l a c (bN l k)):=by
 have hk:k<l.length:=(List.getElem?_eq_some_iff.1 hg).1;have hle:=h.le;have hGw:=h.lt;have HOB:Hid (∀g,blk a g->g<w.heap.size):=Lib.hid (fun g hg=>h.old (by omega) hg);have HIP:=Lib.hid (ge hg);have HNX:=Lib.hid (he.next hg);obtain⟨res,hre⟩:∃r,bN l k=r:=⟨_,rfl⟩
 rw[hre];have da:=Lib.hid hre;clear hre;obtain⟨T,hT⟩:∃T:ByteArray,(⟨tx.toArray⟩:ByteArray)=T:=⟨_,rfl⟩
 have n0:New w (w.alloc (.cells #[.int .u8 0,.string ⟨#[]⟩,.string ⟨#[]⟩,.slice none 0 0,.string ⟨#[]⟩,I 0,I 0,.string ⟨#[]⟩,I 0,I 0,I 0] ItT)):=(New.refl w).alloc _;have hbR:(w.alloc (.cells #[.int .u8 0,.string ⟨#[]⟩,.string ⟨#[]⟩,.slice none 0 0,.string ⟨#[]⟩,I 0,I 0,.string ⟨#[]⟩,I 0,I 0,I 0] ItT)).heap[w.heap.size]? =some (.cells #[.int .u8 0,.string ⟨#[]⟩,.string ⟨#[]⟩,.slice none 0 0,.string ⟨#[]⟩,I 0,I 0,.string ⟨#[]⟩,I 0,I 0,I 0] ItT (0,0)):=heap_alloc_new w _;have hnx:=cY _ G l a c k (h.new n0) hk _ hg;simp only[iB,hT] at hnx;have H:=Lib.hid h;have HBR:=Lib.hid hbR;have HN0:=Lib.hid n0;have htx:=fun b=>gR tx b
 rw[hT] at htx;have nM:=mu (htx [97,99,116,111,114]) hw;have d1:((1:Int) != 1)=false:=by decide
 have HRW:Hid (bN l k=(fA at_ l (k+1)).bind fun x k1=>(bC 3 [59] l k1).bind fun _ k2=> .good x k2):=Lib.hid (by rw[HIP.out,if_pos ⟨rfl,hw⟩]);have hk1:k+1<l.length:=HNX.out (by show(1:Int)≠0;decide);clear h hT hbR n0 htx hg hw;go_enter Tryz.func52,Tryz.ntmps52;go_wp2_with fail;refine hnx.mono ?_;rintro e w1 ⟨rfl,n1⟩;have n2:New w1 (w1.alloc (.cells #[.int .u8 1,.string T,I nu,I (at_:Int)] 98)):=(New.refl w1).alloc _;have hbF:=fX w1 (.int .u8 1) (.string T) (I nu) (I (at_:Int));obtain⟨p0,p1,p2,p3,-,hp⟩:=eX hbF;have N2:=Lib.hid ((HN0.out.trans n1).trans n2);have hs1:w.heap.size<w1.heap.size:=by have:=n1.size;simp at this;omega
 have hIS:ItS ((w1.alloc (.cells #[.int .u8 1,.string T,I nu,I (at_:Int)] 98)).alloc (.cells (cJ at_) ItT)) G (w1.heap.size+1) l a c k (cJ at_) ((w1.alloc (.cells #[.int .u8 1,.string T,I nu,I (at_:Int)] 98)).alloc (.cells (cJ at_) ItT)):=
  ⟨H.out.new (N2.out.alloc _),by have:=heap_alloc_new (w1.alloc (.cells #[.int .u8 1,.string T,I nu,I (at_:Int)] 98)) (.cells (cJ at_) ItT);simpa using this,Keeps.refl _ _,by omega,fun h=>by have:=HOB.out _ h;omega⟩
 have hRb:((w1.alloc (.cells #[.int .u8 1,.string T,I nu,I (at_:Int)] 98)).alloc (.cells (cJ at_) ItT)).heap[w.heap.size]? =some (.cells #[.int .u8 0,.string ⟨#[]⟩,.string ⟨#[]⟩,.slice none 0 0,.string ⟨#[]⟩,I 0,I 0,.string ⟨#[]⟩,I 0,I 0,I 0] ItT (0,0)):=Keeps.heap ((n1.trans n2).alloc _) HBR.out (fun h=>h);have HRB:=Lib.hid hRb;have NW:=Lib.hid (N2.out.alloc (.cells (cJ at_) ItT));have hXw:w.heap.size<=w1.heap.size+1:=by omega
 clear hRb n1 n2 hbF hnx;have hGX:G≠w1.heap.size+1:=by omega
 have hXG:w1.heap.size+1≠G:=by omega
 have hGF:G≠w1.heap.size:=by omega
 have hFG:w1.heap.size≠G:=by omega
 obtain⟨-,c1,z1,hG⟩:=hIS.p.cells;have hw1:IntKind.i64.wrap ((k:Int)+1)=(k:Int)+1:=IntWalk.i64_in _ (by omega);have e4:((k+1:Nat):Int)=(k:Int)+1:=by omega
 obtain⟨⟨y0,-,-,-,-,-,-,-,-,-,-⟩,z,hX⟩:=aF hIS.b;have x0:=z 0;clear z;have hq0:=(hIS.go (k+1)).set 0 (.int .u8 1);rw[e4] at hq0;simp only[cJ,sLs] at hq0;have H1:=Lib.hid hq0;clear hq0 hIS e4;have dr:=ew _ G l a c (k+1) 1 H1.out.p hk1;go_wp2_with fail;refine dr.mono ?_;intro e w2 hq;clear dr;rcases hq.inv with⟨j,hr,rfl,kb⟩|⟨t,k2,hr,rfl,hpp,kk⟩
 ·clear hq;go_wp2
  refine bF rfl ?_;rw[<-da.out,HRW.out];unfold fA;rw[hr,PR.bind_bad,PR.bind_bad];exact⟨rfl,ItS.fin NW.out (H1.out.bad kb) hXw⟩
 have HR1:=Lib.hid hr;have hk2:=(he.take hr (by decide)).1;have bh:=H1.out.call hpp kk;clear hq hr hpp kk H1;have hb:=bh.b;obtain⟨so1,tx1,nu1,ta1⟩:=t;obtain⟨T1,hT1⟩:∃T:ByteArray,(⟨tx1.toArray⟩:ByteArray)=T:=⟨_,rfl⟩
 simp only[iB,hT1];have HT1:=Lib.hid hT1;have f1:=fun W=>(dA (.int .u8 so1) (.string T1) (I nu1) (I (ta1:Int)) W).2.1
 clear hT1;obtain⟨⟨-,y1,-,-,-,-,-,-,-,-,-⟩,z,hX⟩:=aF hb;have x1:=z 1;clear z;have hq0:=bh.set 1 (.string T1);(try simp only[cJ,sLs] at hq0)
 have H2:=Lib.hid hq0;clear hq0 bh hb;have dr:=dM _ G l a c k2 [61] H2.out.p hk2;go_wp2_with fail;refine dr.mono ?_;intro e w3 hq;clear dr;rcases hq.inv with⟨j,hr,rfl,kb⟩|⟨u,k3,hr,rfl,hpp,kk⟩
 ·clear hq;go_wp2
  refine bF rfl ?_;rw[<-da.out,HRW.out];unfold fA;rw[HR1.out,PR.bind_good,hr,PR.bind_bad,PR.bind_bad];exact⟨rfl,ItS.fin NW.out (H2.out.bad kb) hXw⟩
 have HR2:=Lib.hid hr;have hk3:=(he.must hr (by decide)).1;have bh:=H2.out.call hpp kk;clear hq hr hpp kk H2;have hb:=bh.b;have hq0:=bh;(try simp only[cJ,sLs] at hq0)
 have H3:=Lib.hid hq0;clear hq0 bh hb;have dr:=ew _ G l a c k3 1 H3.out.p hk3;go_wp2_with fail;refine dr.mono ?_;intro e w4 hq;clear dr;rcases hq.inv with⟨j,hr,rfl,kb⟩|⟨t,k4,hr,rfl,hpp,kk⟩
 ·clear hq;go_wp2
  refine bF rfl ?_;rw[<-da.out,HRW.out];unfold fA;rw[HR1.out,PR.bind_good,HR2.out,PR.bind_good,hr,PR.bind_bad,PR.bind_bad];exact⟨rfl,ItS.fin NW.out (H3.out.bad kb) hXw⟩
 have HR3:=Lib.hid hr;have hk4:=(he.take hr (by decide)).1;have bh:=H3.out.call hpp kk;clear hq hr hpp kk H3;have hb:=bh.b;obtain⟨so3,tx3,nu3,ta3⟩:=t;obtain⟨T3,hT3⟩:∃T:ByteArray,(⟨tx3.toArray⟩:ByteArray)=T:=⟨_,rfl⟩
 simp only[iB,hT3];have HT3:=Lib.hid hT3;have f1:=fun W=>(dA (.int .u8 so3) (.string T3) (I nu3) (I (ta3:Int)) W).2.1
 clear hT3;obtain⟨⟨-,-,y2,-,-,-,-,-,-,-,-⟩,z,hX⟩:=aF hb;have x2:=z 2;clear z;have hq0:=bh.set 2 (.string T3);(try simp only[cJ,sLs] at hq0)
 have H4:=Lib.hid hq0;clear hq0 bh hb;have dr:=qb _ G l a c k4 he H4.out.p hk4;go_wp2_with fail;refine dr.mono ?_;rintro e w5 ⟨ao,co,rfl,ho,hpp,kk⟩;clear dr;have hlx:=he.nums hk4;obtain⟨L,hL⟩:∃L,cQ l k4=L:=⟨_,rfl⟩
 rw[hL] at ho hpp hlx ⊢;have HR4:Hid (numsP l k4= .good L (k4+L.length)):=Lib.hid (by unfold numsP;rw[hL]);have HOX:=Lib.hid (ho.base (B':=w.heap.size) (by have hz:=H4.out.ks.size;simp at hz ⊢;omega));obtain⟨N,hN⟩:∃N,L.length=N:=⟨_,rfl⟩
 have HN:=Lib.hid hN;have bh:=H4.out.call hpp kk;rw[hN] at bh hlx;rw[hN];clear hL ho hpp kk hN H4;have hb:=bh.b;obtain⟨⟨-,-,-,y3,-,-,-,-,-,-,-⟩,z,hX⟩:=aF hb;have x3:=z 3;clear z;have hq0:=bh.set 3 (.slice ao N co);have hox:=HOX.out.it hb (by decide) (Keeps.setCell _ ⟨w1.heap.size+1,3,none⟩ (.slice ao N co) rfl);clear HOX;have HOX:=Lib.hid hox;clear hox;(try simp only[cJ,sLs] at hq0)
 have H5:=Lib.hid hq0;clear hq0 bh hb;have dr:=dM _ G l a c (k4+N) [59] H5.out.p hlx;go_wp2_with fail;refine dr.mono ?_;intro e w6 hq;clear dr;rcases hq.inv with⟨j,hr,rfl,kb⟩|⟨u,k6,hr,rfl,hpp,kk⟩
 ·clear hq;go_wp2
  refine bF rfl ?_;rw[<-da.out,HRW.out];unfold fA;rw[HR1.out,PR.bind_good,HR2.out,PR.bind_good,HR3.out,PR.bind_good,HR4.out,PR.bind_good,PR.bind_good,HN.out,hr,PR.bind_bad];exact⟨rfl,ItS.fin NW.out (H5.out.bad kb) hXw⟩
 have HR5:=Lib.hid hr;have hk6:=(he.must hr (by decide)).1;have bh:=H5.out.call hpp kk;have hox:bc _ w.heap.size ao co _:=al HOX.out kk (fun g hg=>⟨_,_,_,hg▸H5.out.p.bk,by decide⟩);clear HOX;have HOX:=Lib.hid hox;clear hox;clear hq hr hpp kk H5;have hb:=bh.b;have hq0:=bh;(try simp only[cJ,sLs] at hq0)
 have H6:=Lib.hid hq0;clear hq0 bh hb;have hb:=H6.out.b;obtain⟨⟨y0,y1,y2,y3,y4,y5,y6,y7,y8,y9,y10⟩,-,hX⟩:=aF hb;have hbR:=H6.out.ks.heap HRB.out (fun h=>by rcases h with h|h<;>omega);obtain⟨⟨r0,r1,r2,r3,r4,r5,r6,r7,r8,r9,r10⟩,z,hR⟩:=aF hbR;have x0:=z 0;have x1:=z 1;have x2:=z 2;have x3:=z 3;have x4:=z 4;have x5:=z 5;have x6:=z 6;have x7:=z 7;have x8:=z 8;have x9:=z 9;have x10:=z 10;have hst:=jY hbR (.int .u8 1) (.string T1) (.string T3) (.slice ao N co) (.string ⟨#[]⟩) (I 0) (I 0) (.string ⟨#[]⟩) (I 0) (I 0) (I (at_:Int));have hPf:=H6.out.p.keeps hst.2 (fun h=>by omega) (fun g hg h=>by have:=HOB.out g hg;omega);have hKf:=(ItS.fin NW.out H6.out.ks hXw).trans hst.2 (fun i hi h=>by omega);have hOf:=HOX.out.it hbR (by decide) hst.2;have hbf:=hst.1;have HFF:=Lib.hid hbf;have HFP:=Lib.hid (And.intro hPf (And.intro hKf hOf));clear hst hPf hKf hbf hb hbR z H6 hOf;go_wp2_with fail;have hbf:=HFF.out;have hff:=HFP.out;clear HFF HFP y0 y1 y2 y3 y4 y5 y6 y7 y8 y9 y10 r0 r1 r2 r3 r4 r5 r6 r7 r8 r9 r10 x0 x1 x2 x3 x4 x5 x6 x7 x8 x9 x10;generalize(((((((((((w6.setCell ⟨w.heap.size,0,none⟩ (.int .u8 1)).setCell ⟨w.heap.size,1,none⟩ (.string T1)).setCell ⟨w.heap.size,2,none⟩ (.string T3)).setCell ⟨w.heap.size,3,none⟩ (.slice ao N co)).setCell ⟨w.heap.size,4,none⟩ (.string ⟨#[]⟩)).setCell ⟨w.heap.size,5,none⟩ (I 0)).setCell ⟨w.heap.size,6,none⟩ (I 0)).setCell ⟨w.heap.size,7,none⟩ (.string ⟨#[]⟩)).setCell ⟨w.heap.size,8,none⟩ (I 0)).setCell ⟨w.heap.size,9,none⟩ (I 0)).setCell ⟨w.heap.size,10,none⟩ (I (at_:Int)))=Wf at hbf hff ⊢;obtain⟨⟨r0,r1,r2,r3,r4,r5,r6,r7,r8,r9,r10⟩,-,-⟩:=aF hbf;refine bodyPost_ret (v:= .agg #[.int .u8 1,.string T1,.string T3,.slice ao N co,.string ⟨#[]⟩,I 0,I 0,.string ⟨#[]⟩,I 0,I 0,I (at_:Int)]) (by simp[results,Tryz.results52,go_sem,r0,r1,r2,r3,r4,r5,r6,r7,r8,r9,r10]) rfl ?_;rw[<-da.out,HRW.out];unfold fA;rw[HR1.out,PR.bind_good,HR2.out,PR.bind_good,HR3.out,PR.bind_good,HR4.out,PR.bind_good,PR.bind_good,HN.out,HR5.out,PR.bind_good];obtain rfl:=HT1.out;obtain rfl:=HT3.out;obtain rfl:=HN.out;have h9:bc Wf w.heap.size ao co L:=hff.2.2;have h8:=hff.1;have h7:=hff.2.1;clear hff;simp only[fL];exact⟨ao,co,rfl,h9,h8,h7⟩
theorem zf (w:World) (G:Nat) (l:List LTok) (a:Option Addr) (c k:Nat) (he:dT l) (h:PAt w G l a c k) (tx:List UInt8) (nu:Int) (at_:Nat) (hg:l[k]? =some ⟨1,tx,nu,at_⟩) (hw:tx=inW):
  Calls Tryz.prog 52 #[.pointer (some ⟨G,0,none⟩)] w (fL w G l a c (bN l k)):=by
 have hk:k<l.length:=(List.getElem?_eq_some_iff.1 hg).1;have hle:=h.le;have hGw:=h.lt;have HOB:Hid (∀g,blk a g->g<w.heap.size):=Lib.hid (fun g hg=>h.old (by omega) hg);have HIP:=Lib.hid (ge hg);have HNX:=Lib.hid (he.next hg);obtain⟨res,hre⟩:∃r,bN l k=r:=⟨_,rfl⟩
 rw[hre];have da:=Lib.hid hre;clear hre;obtain⟨T,hT⟩:∃T:ByteArray,(⟨tx.toArray⟩:ByteArray)=T:=⟨_,rfl⟩
 have n0:New w (w.alloc (.cells #[.int .u8 0,.string ⟨#[]⟩,.string ⟨#[]⟩,.slice none 0 0,.string ⟨#[]⟩,I 0,I 0,.string ⟨#[]⟩,I 0,I 0,I 0] ItT)):=(New.refl w).alloc _;have hbR:(w.alloc (.cells #[.int .u8 0,.string ⟨#[]⟩,.string ⟨#[]⟩,.slice none 0 0,.string ⟨#[]⟩,I 0,I 0,.string ⟨#[]⟩,I 0,I 0,I 0] ItT)).heap[w.heap.size]? =some (.cells #[.int .u8 0,.string ⟨#[]⟩,.string ⟨#[]⟩,.slice none 0 0,.string ⟨#[]⟩,I 0,I 0,.string ⟨#[]⟩,I 0,I 0,I 0] ItT (0,0)):=heap_alloc_new w _;have hnx:=cY _ G l a c k (h.new n0) hk _ hg;simp only[iB,hT] at hnx;have H:=Lib.hid h;have HBR:=Lib.hid hbR;have HN0:=Lib.hid n0;have htx:=fun b=>gR tx b
 rw[hT] at htx;have nM:=gJ (htx [97,99,116,111,114]) (by rw[hw];decide);have uq:=gJ (htx [101,100,103,101]) (by rw[hw];decide);have C5:=mu (htx [105,110]) hw;have d1:((1:Int) != 1)=false:=by decide
 have HRW:Hid (bN l k=(inP at_ l (k+1)).bind fun x k1=>(bC 3 [59] l k1).bind fun _ k2=> .good x k2):=Lib.hid (by rw[HIP.out,if_neg (fun h=>absurd (hw.symm.trans h.2) (by decide)),if_neg (fun h=>absurd (hw.symm.trans h.2) (by decide)),if_pos ⟨rfl,hw⟩]);have hk1:k+1<l.length:=HNX.out (by show(1:Int)≠0;decide);clear h hT hbR n0 htx hg hw;go_enter Tryz.func52,Tryz.ntmps52;go_wp2_with fail;refine hnx.mono ?_;rintro e w1 ⟨rfl,n1⟩;have n2:New w1 (w1.alloc (.cells #[.int .u8 1,.string T,I nu,I (at_:Int)] 98)):=(New.refl w1).alloc _;have hbF:=fX w1 (.int .u8 1) (.string T) (I nu) (I (at_:Int));obtain⟨p0,p1,p2,p3,-,hp⟩:=eX hbF;have N2:=Lib.hid ((HN0.out.trans n1).trans n2);have hs1:w.heap.size<w1.heap.size:=by have:=n1.size;simp at this;omega
 have hIS:ItS ((w1.alloc (.cells #[.int .u8 1,.string T,I nu,I (at_:Int)] 98)).alloc (.cells (cJ at_) ItT)) G (w1.heap.size+1) l a c k (cJ at_) ((w1.alloc (.cells #[.int .u8 1,.string T,I nu,I (at_:Int)] 98)).alloc (.cells (cJ at_) ItT)):=
  ⟨H.out.new (N2.out.alloc _),by have:=heap_alloc_new (w1.alloc (.cells #[.int .u8 1,.string T,I nu,I (at_:Int)] 98)) (.cells (cJ at_) ItT);simpa using this,Keeps.refl _ _,by omega,fun h=>by have:=HOB.out _ h;omega⟩
 have hRb:((w1.alloc (.cells #[.int .u8 1,.string T,I nu,I (at_:Int)] 98)).alloc (.cells (cJ at_) ItT)).heap[w.heap.size]? =some (.cells #[.int .u8 0,.string ⟨#[]⟩,.string ⟨#[]⟩,.slice none 0 0,.string ⟨#[]⟩,I 0,I 0,.string ⟨#[]⟩,I 0,I 0,I 0] ItT (0,0)):=Keeps.heap ((n1.trans n2).alloc _) HBR.out (fun h=>h);have HRB:=Lib.hid hRb;have NW:=Lib.hid (N2.out.alloc (.cells (cJ at_) ItT));have hXw:w.heap.size<=w1.heap.size+1:=by omega
 clear hRb n1 n2 hbF hnx;have hGX:G≠w1.heap.size+1:=by omega
 have hXG:w1.heap.size+1≠G:=by omega
 have hGF:G≠w1.heap.size:=by omega
 have hFG:w1.heap.size≠G:=by omega
 obtain⟨-,c1,z1,hG⟩:=hIS.p.cells;have hw1:IntKind.i64.wrap ((k:Int)+1)=(k:Int)+1:=IntWalk.i64_in _ (by omega);have e4:((k+1:Nat):Int)=(k:Int)+1:=by omega
 obtain⟨⟨y0,-,-,-,-,-,-,-,-,-,-⟩,z,hX⟩:=aF hIS.b;have x0:=z 0;clear z;have hq0:=(hIS.go (k+1)).set 0 (.int .u8 3);rw[e4] at hq0;simp only[cJ,sLs] at hq0;have H1:=Lib.hid hq0;clear hq0 hIS e4;have dr:=ew _ G l a c (k+1) 1 H1.out.p hk1;go_wp2_with fail;refine dr.mono ?_;intro e w2 hq;clear dr;rcases hq.inv with⟨j,hr,rfl,kb⟩|⟨t,k2,hr,rfl,hpp,kk⟩
 ·clear hq;go_wp2
  refine bF rfl ?_;rw[<-da.out,HRW.out];unfold inP;rw[hr,PR.bind_bad,PR.bind_bad];exact⟨rfl,ItS.fin NW.out (H1.out.bad kb) hXw⟩
 have HR1:=Lib.hid hr;have hk2:=(he.take hr (by decide)).1;have bh:=H1.out.call hpp kk;clear hq hr hpp kk H1;have hb:=bh.b;obtain⟨so1,tx1,nu1,ta1⟩:=t;obtain⟨T1,hT1⟩:∃T:ByteArray,(⟨tx1.toArray⟩:ByteArray)=T:=⟨_,rfl⟩
 simp only[iB,hT1];have HT1:=Lib.hid hT1;have f1:=fun W=>(dA (.int .u8 so1) (.string T1) (I nu1) (I (ta1:Int)) W).2.1
 clear hT1;obtain⟨⟨-,y1,-,-,-,-,-,-,-,-,-⟩,z,hX⟩:=aF hb;have x1:=z 1;clear z;have hq0:=bh.set 1 (.string T1);(try simp only[cJ,sLs] at hq0)
 have H2:=Lib.hid hq0;clear hq0 bh hb;have dr:=dM _ G l a c k2 [45,62] H2.out.p hk2;go_wp2_with fail;refine dr.mono ?_;intro e w3 hq;clear dr;rcases hq.inv with⟨j,hr,rfl,kb⟩|⟨u,k3,hr,rfl,hpp,kk⟩
 ·clear hq;go_wp2
  refine bF rfl ?_;rw[<-da.out,HRW.out];unfold inP;rw[HR1.out,PR.bind_good,hr,PR.bind_bad,PR.bind_bad];exact⟨rfl,ItS.fin NW.out (H2.out.bad kb) hXw⟩
 have HR2:=Lib.hid hr;have hk3:=(he.must hr (by decide)).1;have bh:=H2.out.call hpp kk;clear hq hr hpp kk H2;have hb:=bh.b;have hq0:=bh;(try simp only[cJ,sLs] at hq0)
 have H3:=Lib.hid hq0;clear hq0 bh hb;have dr:=jC _ G l a c k3 he H3.out.p hk3;go_wp2_with fail;refine dr.mono ?_;intro e w4 hq;clear dr;rcases hq.inv with⟨j,hr,rfl,kb⟩|⟨t,k4,hr,rfl,hpp,kk⟩
 ·clear hq;go_wp2
  refine bF rfl ?_;rw[<-da.out,HRW.out];unfold inP;rw[HR1.out,PR.bind_good,HR2.out,PR.bind_good,hr,PR.bind_bad,PR.bind_bad];exact⟨rfl,ItS.fin NW.out (H3.out.bad kb) hXw⟩
 have HR3:=Lib.hid hr;have hk4:=(he.place hr).1;have bh:=H3.out.call hpp kk;clear hq hr hpp kk H3;have hb:=bh.b;obtain⟨pn3,pp3,pa3⟩:=t;obtain⟨⟨-,-,-,-,-,-,-,y7,y8,y9,-⟩,z,hX⟩:=aF hb;have x7:=z 7;have x8:=z 8;have x9:=z 9;clear z;have hq0:=((bh.set 7 (.string ⟨pn3.toArray⟩)).set 8 (I pp3)).set 9 (I (pa3:Int));(try simp only[cJ,sLs] at hq0)
 have H4:=Lib.hid hq0;clear hq0 bh hb;have dr:=dM _ G l a c k4 [59] H4.out.p hk4;go_wp2_with fail;refine dr.mono ?_;intro e w5 hq;clear dr;rcases hq.inv with⟨j,hr,rfl,kb⟩|⟨u,k5,hr,rfl,hpp,kk⟩
 ·clear hq;go_wp2
  refine bF rfl ?_;rw[<-da.out,HRW.out];unfold inP;rw[HR1.out,PR.bind_good,HR2.out,PR.bind_good,HR3.out,PR.bind_good,PR.bind_good,hr,PR.bind_bad];exact⟨rfl,ItS.fin NW.out (H4.out.bad kb) hXw⟩
 have HR4:=Lib.hid hr;have hk5:=(he.must hr (by decide)).1;have bh:=H4.out.call hpp kk;clear hq hr hpp kk H4;have hb:=bh.b;have hq0:=bh;(try simp only[cJ,sLs] at hq0)
 have H5:=Lib.hid hq0;clear hq0 bh hb;have hb:=H5.out.b;obtain⟨⟨y0,y1,y2,y3,y4,y5,y6,y7,y8,y9,y10⟩,-,hX⟩:=aF hb;have hbR:=H5.out.ks.heap HRB.out (fun h=>by rcases h with h|h<;>omega);obtain⟨⟨r0,r1,r2,r3,r4,r5,r6,r7,r8,r9,r10⟩,z,hR⟩:=aF hbR;have x0:=z 0;have x1:=z 1;have x2:=z 2;have x3:=z 3;have x4:=z 4;have x5:=z 5;have x6:=z 6;have x7:=z 7;have x8:=z 8;have x9:=z 9;have x10:=z 10;have hst:=jY hbR (.int .u8 3) (.string T1) (.string ⟨#[]⟩) (.slice none 0 0) (.string ⟨#[]⟩) (I 0) (I 0) (.string ⟨pn3.toArray⟩) (I pp3) (I (pa3:Int)) (I (at_:Int));have hPf:=H5.out.p.keeps hst.2 (fun h=>by omega) (fun g hg h=>by have:=HOB.out g hg;omega);have hKf:=(ItS.fin NW.out H5.out.ks hXw).trans hst.2 (fun i hi h=>by omega);have hbf:=hst.1;have HFF:=Lib.hid hbf;have HFP:=Lib.hid (And.intro hPf hKf);clear hst hPf hKf hbf hb hbR z H5;go_wp2_with fail;have hbf:=HFF.out;have hff:=HFP.out;clear HFF HFP y0 y1 y2 y3 y4 y5 y6 y7 y8 y9 y10 r0 r1 r2 r3 r4 r5 r6 r7 r8 r9 r10 x0 x1 x2 x3 x4 x5 x6 x7 x8 x9 x10;generalize(((((((((((w5.setCell ⟨w.heap.size,0,none⟩ (.int .u8 3)).setCell ⟨w.heap.size,1,none⟩ (.string T1)).setCell ⟨w.heap.size,2,none⟩ (.string ⟨#[]⟩)).setCell ⟨w.heap.size,3,none⟩ (.slice none 0 0)).setCell ⟨w.heap.size,4,none⟩ (.string ⟨#[]⟩)).setCell ⟨w.heap.size,5,none⟩ (I 0)).setCell ⟨w.heap.size,6,none⟩ (I 0)).setCell ⟨w.heap.size,7,none⟩ (.string ⟨pn3.toArray⟩)).setCell ⟨w.heap.size,8,none⟩ (I pp3)).setCell ⟨w.heap.size,9,none⟩ (I (pa3:Int))).setCell ⟨w.heap.size,10,none⟩ (I (at_:Int)))=Wf at hbf hff ⊢;obtain⟨⟨r0,r1,r2,r3,r4,r5,r6,r7,r8,r9,r10⟩,-,-⟩:=aF hbf;refine bodyPost_ret (v:= .agg #[.int .u8 3,.string T1,.string ⟨#[]⟩,.slice none 0 0,.string ⟨#[]⟩,I 0,I 0,.string ⟨pn3.toArray⟩,I pp3,I (pa3:Int),I (at_:Int)]) (by simp[results,Tryz.results52,go_sem,r0,r1,r2,r3,r4,r5,r6,r7,r8,r9,r10]) rfl ?_;rw[<-da.out,HRW.out];unfold inP;rw[HR1.out,PR.bind_good,HR2.out,PR.bind_good,HR3.out,PR.bind_good,PR.bind_good,HR4.out,PR.bind_good];obtain rfl:=HT1.out;exact⟨none,0,rfl,World.ownsRow_nil _ _ _ _,hff.1,hff.2⟩
theorem wF (w:World) (G:Nat) (l:List LTok) (a:Option Addr) (c k:Nat) (he:dT l) (h:PAt w G l a c k) (tx:List UInt8) (nu:Int) (at_:Nat) (hg:l[k]? =some ⟨1,tx,nu,at_⟩) (hw:tx=mH):
  Calls Tryz.prog 52 #[.pointer (some ⟨G,0,none⟩)] w (fL w G l a c (bN l k)):=by
 have hk:k<l.length:=(List.getElem?_eq_some_iff.1 hg).1;have hle:=h.le;have hGw:=h.lt;have HOB:Hid (∀g,blk a g->g<w.heap.size):=Lib.hid (fun g hg=>h.old (by omega) hg);have HIP:=Lib.hid (ge hg);have HNX:=Lib.hid (he.next hg);obtain⟨res,hre⟩:∃r,bN l k=r:=⟨_,rfl⟩
 rw[hre];have da:=Lib.hid hre;clear hre;obtain⟨T,hT⟩:∃T:ByteArray,(⟨tx.toArray⟩:ByteArray)=T:=⟨_,rfl⟩
 have n0:New w (w.alloc (.cells #[.int .u8 0,.string ⟨#[]⟩,.string ⟨#[]⟩,.slice none 0 0,.string ⟨#[]⟩,I 0,I 0,.string ⟨#[]⟩,I 0,I 0,I 0] ItT)):=(New.refl w).alloc _;have hbR:(w.alloc (.cells #[.int .u8 0,.string ⟨#[]⟩,.string ⟨#[]⟩,.slice none 0 0,.string ⟨#[]⟩,I 0,I 0,.string ⟨#[]⟩,I 0,I 0,I 0] ItT)).heap[w.heap.size]? =some (.cells #[.int .u8 0,.string ⟨#[]⟩,.string ⟨#[]⟩,.slice none 0 0,.string ⟨#[]⟩,I 0,I 0,.string ⟨#[]⟩,I 0,I 0,I 0] ItT (0,0)):=heap_alloc_new w _;have hnx:=cY _ G l a c k (h.new n0) hk _ hg;simp only[iB,hT] at hnx;have H:=Lib.hid h;have HBR:=Lib.hid hbR;have HN0:=Lib.hid n0;have htx:=fun b=>gR tx b
 rw[hT] at htx;have nM:=gJ (htx [97,99,116,111,114]) (by rw[hw];decide);have uq:=gJ (htx [101,100,103,101]) (by rw[hw];decide);have C5:=gJ (htx [105,110]) (by rw[hw];decide);have C6:=mu (htx [111,117,116]) hw;have d1:((1:Int) != 1)=false:=by decide
 have HRW:Hid (bN l k=(lv at_ l (k+1)).bind fun x k1=>(bC 3 [59] l k1).bind fun _ k2=> .good x k2):=Lib.hid (by rw[HIP.out,if_neg (fun h=>absurd (hw.symm.trans h.2) (by decide)),if_neg (fun h=>absurd (hw.symm.trans h.2) (by decide)),if_neg (fun h=>absurd (hw.symm.trans h.2) (by decide)),if_pos ⟨rfl,hw⟩]);have hk1:k+1<l.length:=HNX.out (by show(1:Int)≠0;decide);clear h hT hbR n0 htx hg hw;go_enter Tryz.func52,Tryz.ntmps52;go_wp2_with fail;refine hnx.mono ?_;rintro e w1 ⟨rfl,n1⟩;have n2:New w1 (w1.alloc (.cells #[.int .u8 1,.string T,I nu,I (at_:Int)] 98)):=(New.refl w1).alloc _;have hbF:=fX w1 (.int .u8 1) (.string T) (I nu) (I (at_:Int));obtain⟨p0,p1,p2,p3,-,hp⟩:=eX hbF;have N2:=Lib.hid ((HN0.out.trans n1).trans n2);have hs1:w.heap.size<w1.heap.size:=by have:=n1.size;simp at this;omega
 have hIS:ItS ((w1.alloc (.cells #[.int .u8 1,.string T,I nu,I (at_:Int)] 98)).alloc (.cells (cJ at_) ItT)) G (w1.heap.size+1) l a c k (cJ at_) ((w1.alloc (.cells #[.int .u8 1,.string T,I nu,I (at_:Int)] 98)).alloc (.cells (cJ at_) ItT)):=
  ⟨H.out.new (N2.out.alloc _),by have:=heap_alloc_new (w1.alloc (.cells #[.int .u8 1,.string T,I nu,I (at_:Int)] 98)) (.cells (cJ at_) ItT);simpa using this,Keeps.refl _ _,by omega,fun h=>by have:=HOB.out _ h;omega⟩
 have hRb:((w1.alloc (.cells #[.int .u8 1,.string T,I nu,I (at_:Int)] 98)).alloc (.cells (cJ at_) ItT)).heap[w.heap.size]? =some (.cells #[.int .u8 0,.string ⟨#[]⟩,.string ⟨#[]⟩,.slice none 0 0,.string ⟨#[]⟩,I 0,I 0,.string ⟨#[]⟩,I 0,I 0,I 0] ItT (0,0)):=Keeps.heap ((n1.trans n2).alloc _) HBR.out (fun h=>h);have HRB:=Lib.hid hRb;have NW:=Lib.hid (N2.out.alloc (.cells (cJ at_) ItT));have hXw:w.heap.size<=w1.heap.size+1:=by omega
 clear hRb n1 n2 hbF hnx;have hGX:G≠w1.heap.size+1:=by omega
 have hXG:w1.heap.size+1≠G:=by omega
 have hGF:G≠w1.heap.size:=by omega
 have hFG:w1.heap.size≠G:=by omega
 obtain⟨-,c1,z1,hG⟩:=hIS.p.cells;have hw1:IntKind.i64.wrap ((k:Int)+1)=(k:Int)+1:=IntWalk.i64_in _ (by omega);have e4:((k+1:Nat):Int)=(k:Int)+1:=by omega
 obtain⟨⟨y0,-,-,-,-,-,-,-,-,-,-⟩,z,hX⟩:=aF hIS.b;have x0:=z 0;clear z;have hq0:=(hIS.go (k+1)).set 0 (.int .u8 4);rw[e4] at hq0;simp only[cJ,sLs] at hq0;have H1:=Lib.hid hq0;clear hq0 hIS e4;have dr:=jC _ G l a c (k+1) he H1.out.p hk1;go_wp2_with fail;refine dr.mono ?_;intro e w2 hq;clear dr;rcases hq.inv with⟨j,hr,rfl,kb⟩|⟨t,k2,hr,rfl,hpp,kk⟩
 ·clear hq;go_wp2
  refine bF rfl ?_;rw[<-da.out,HRW.out];unfold lv;rw[hr,PR.bind_bad,PR.bind_bad];exact⟨rfl,ItS.fin NW.out (H1.out.bad kb) hXw⟩
 have HR1:=Lib.hid hr;have hk2:=(he.place hr).1;have bh:=H1.out.call hpp kk;clear hq hr hpp kk H1;have hb:=bh.b;obtain⟨pn1,pp1,pa1⟩:=t;obtain⟨⟨-,-,-,-,y4,y5,y6,-,-,-,-⟩,z,hX⟩:=aF hb;have x4:=z 4;have x5:=z 5;have x6:=z 6;clear z;have hq0:=((bh.set 4 (.string ⟨pn1.toArray⟩)).set 5 (I pp1)).set 6 (I (pa1:Int));(try simp only[cJ,sLs] at hq0)
 have H2:=Lib.hid hq0;clear hq0 bh hb;have dr:=dM _ G l a c k2 [45,62] H2.out.p hk2;go_wp2_with fail;refine dr.mono ?_;intro e w3 hq;clear dr;rcases hq.inv with⟨j,hr,rfl,kb⟩|⟨u,k3,hr,rfl,hpp,kk⟩
 ·clear hq;go_wp2
  refine bF rfl ?_;rw[<-da.out,HRW.out];unfold lv;rw[HR1.out,PR.bind_good,hr,PR.bind_bad,PR.bind_bad];exact⟨rfl,ItS.fin NW.out (H2.out.bad kb) hXw⟩
 have HR2:=Lib.hid hr;have hk3:=(he.must hr (by decide)).1;have bh:=H2.out.call hpp kk;clear hq hr hpp kk H2;have hb:=bh.b;have hq0:=bh;(try simp only[cJ,sLs] at hq0)
 have H3:=Lib.hid hq0;clear hq0 bh hb;have dr:=ew _ G l a c k3 1 H3.out.p hk3;go_wp2_with fail;refine dr.mono ?_;intro e w4 hq;clear dr;rcases hq.inv with⟨j,hr,rfl,kb⟩|⟨t,k4,hr,rfl,hpp,kk⟩
 ·clear hq;go_wp2
  refine bF rfl ?_;rw[<-da.out,HRW.out];unfold lv;rw[HR1.out,PR.bind_good,HR2.out,PR.bind_good,hr,PR.bind_bad,PR.bind_bad];exact⟨rfl,ItS.fin NW.out (H3.out.bad kb) hXw⟩
 have HR3:=Lib.hid hr;have hk4:=(he.take hr (by decide)).1;have bh:=H3.out.call hpp kk;clear hq hr hpp kk H3;have hb:=bh.b;obtain⟨so3,tx3,nu3,ta3⟩:=t;obtain⟨T3,hT3⟩:∃T:ByteArray,(⟨tx3.toArray⟩:ByteArray)=T:=⟨_,rfl⟩
 simp only[iB,hT3];have HT3:=Lib.hid hT3;have f1:=fun W=>(dA (.int .u8 so3) (.string T3) (I nu3) (I (ta3:Int)) W).2.1
 clear hT3;obtain⟨⟨-,y1,-,-,-,-,-,-,-,-,-⟩,z,hX⟩:=aF hb;have x1:=z 1;clear z;have hq0:=bh.set 1 (.string T3);(try simp only[cJ,sLs] at hq0)
 have H4:=Lib.hid hq0;clear hq0 bh hb;have dr:=dM _ G l a c k4 [59] H4.out.p hk4;go_wp2_with fail;refine dr.mono ?_;intro e w5 hq;clear dr;rcases hq.inv with⟨j,hr,rfl,kb⟩|⟨u,k5,hr,rfl,hpp,kk⟩
 ·clear hq;go_wp2
  refine bF rfl ?_;rw[<-da.out,HRW.out];unfold lv;rw[HR1.out,PR.bind_good,HR2.out,PR.bind_good,HR3.out,PR.bind_good,PR.bind_good,hr,PR.bind_bad];exact⟨rfl,ItS.fin NW.out (H4.out.bad kb) hXw⟩
 have HR4:=Lib.hid hr;have hk5:=(he.must hr (by decide)).1;have bh:=H4.out.call hpp kk;clear hq hr hpp kk H4;have hb:=bh.b;have hq0:=bh;(try simp only[cJ,sLs] at hq0)
 have H5:=Lib.hid hq0;clear hq0 bh hb;have hb:=H5.out.b;obtain⟨⟨y0,y1,y2,y3,y4,y5,y6,y7,y8,y9,y10⟩,-,hX⟩:=aF hb;have hbR:=H5.out.ks.heap HRB.out (fun h=>by rcases h with h|h<;>omega);obtain⟨⟨r0,r1,r2,r3,r4,r5,r6,r7,r8,r9,r10⟩,z,hR⟩:=aF hbR;have x0:=z 0;have x1:=z 1;have x2:=z 2;have x3:=z 3;have x4:=z 4;have x5:=z 5;have x6:=z 6;have x7:=z 7;have x8:=z 8;have x9:=z 9;have x10:=z 10;have hst:=jY hbR (.int .u8 4) (.string T3) (.string ⟨#[]⟩) (.slice none 0 0) (.string ⟨pn1.toArray⟩) (I pp1) (I (pa1:Int)) (.string ⟨#[]⟩) (I 0) (I 0) (I (at_:Int));have hPf:=H5.out.p.keeps hst.2 (fun h=>by omega) (fun g hg h=>by have:=HOB.out g hg;omega);have hKf:=(ItS.fin NW.out H5.out.ks hXw).trans hst.2 (fun i hi h=>by omega);have hbf:=hst.1;have HFF:=Lib.hid hbf;have HFP:=Lib.hid (And.intro hPf hKf);clear hst hPf hKf hbf hb hbR z H5;go_wp2_with fail;have hbf:=HFF.out;have hff:=HFP.out;clear HFF HFP y0 y1 y2 y3 y4 y5 y6 y7 y8 y9 y10 r0 r1 r2 r3 r4 r5 r6 r7 r8 r9 r10 x0 x1 x2 x3 x4 x5 x6 x7 x8 x9 x10;generalize(((((((((((w5.setCell ⟨w.heap.size,0,none⟩ (.int .u8 4)).setCell ⟨w.heap.size,1,none⟩ (.string T3)).setCell ⟨w.heap.size,2,none⟩ (.string ⟨#[]⟩)).setCell ⟨w.heap.size,3,none⟩ (.slice none 0 0)).setCell ⟨w.heap.size,4,none⟩ (.string ⟨pn1.toArray⟩)).setCell ⟨w.heap.size,5,none⟩ (I pp1)).setCell ⟨w.heap.size,6,none⟩ (I (pa1:Int))).setCell ⟨w.heap.size,7,none⟩ (.string ⟨#[]⟩)).setCell ⟨w.heap.size,8,none⟩ (I 0)).setCell ⟨w.heap.size,9,none⟩ (I 0)).setCell ⟨w.heap.size,10,none⟩ (I (at_:Int)))=Wf at hbf hff ⊢;obtain⟨⟨r0,r1,r2,r3,r4,r5,r6,r7,r8,r9,r10⟩,-,-⟩:=aF hbf;refine bodyPost_ret (v:= .agg #[.int .u8 4,.string T3,.string ⟨#[]⟩,.slice none 0 0,.string ⟨pn1.toArray⟩,I pp1,I (pa1:Int),.string ⟨#[]⟩,I 0,I 0,I (at_:Int)]) (by simp[results,Tryz.results52,go_sem,r0,r1,r2,r3,r4,r5,r6,r7,r8,r9,r10]) rfl ?_;rw[<-da.out,HRW.out];unfold lv;rw[HR1.out,PR.bind_good,HR2.out,PR.bind_good,HR3.out,PR.bind_good,PR.bind_good,HR4.out,PR.bind_good];obtain rfl:=HT3.out;exact⟨none,0,rfl,World.ownsRow_nil _ _ _ _,hff.1,hff.2⟩
theorem tX (w:World) (G:Nat) (l:List LTok) (a:Option Addr) (c k:Nat) (he:dT l) (h:PAt w G l a c k) (tx:List UInt8) (nu:Int) (at_:Nat) (hg:l[k]? =some ⟨1,tx,nu,at_⟩) (hw:tx=ib):
  Calls Tryz.prog 52 #[.pointer (some ⟨G,0,none⟩)] w (fL w G l a c (bN l k)):=by
 have hk:k<l.length:=(List.getElem?_eq_some_iff.1 hg).1;have hle:=h.le;have hGw:=h.lt;have HOB:Hid (∀g,blk a g->g<w.heap.size):=Lib.hid (fun g hg=>h.old (by omega) hg);have HIP:=Lib.hid (ge hg);have HNX:=Lib.hid (he.next hg);obtain⟨res,hre⟩:∃r,bN l k=r:=⟨_,rfl⟩
 rw[hre];have da:=Lib.hid hre;clear hre;obtain⟨T,hT⟩:∃T:ByteArray,(⟨tx.toArray⟩:ByteArray)=T:=⟨_,rfl⟩
 have n0:New w (w.alloc (.cells #[.int .u8 0,.string ⟨#[]⟩,.string ⟨#[]⟩,.slice none 0 0,.string ⟨#[]⟩,I 0,I 0,.string ⟨#[]⟩,I 0,I 0,I 0] ItT)):=(New.refl w).alloc _;have hbR:(w.alloc (.cells #[.int .u8 0,.string ⟨#[]⟩,.string ⟨#[]⟩,.slice none 0 0,.string ⟨#[]⟩,I 0,I 0,.string ⟨#[]⟩,I 0,I 0,I 0] ItT)).heap[w.heap.size]? =some (.cells #[.int .u8 0,.string ⟨#[]⟩,.string ⟨#[]⟩,.slice none 0 0,.string ⟨#[]⟩,I 0,I 0,.string ⟨#[]⟩,I 0,I 0,I 0] ItT (0,0)):=heap_alloc_new w _;have hnx:=cY _ G l a c k (h.new n0) hk _ hg;simp only[iB,hT] at hnx;have H:=Lib.hid h;have HBR:=Lib.hid hbR;have HN0:=Lib.hid n0;have htx:=fun b=>gR tx b
 rw[hT] at htx;have nM:=gJ (htx [97,99,116,111,114]) (by rw[hw];decide);have uq:=mu (htx [101,100,103,101]) hw;have d1:((1:Int) != 1)=false:=by decide
 have HRW:Hid (bN l k=(fE at_ l (k+1)).bind fun x k1=>(bC 3 [59] l k1).bind fun _ k2=> .good x k2):=Lib.hid (by rw[HIP.out,if_neg (fun h=>absurd (hw.symm.trans h.2) (by decide)),if_pos ⟨rfl,hw⟩]);have hk1:k+1<l.length:=HNX.out (by show(1:Int)≠0;decide);clear h hT hbR n0 htx hg hw;go_enter Tryz.func52,Tryz.ntmps52;go_wp2_with fail;refine hnx.mono ?_;rintro e w1 ⟨rfl,n1⟩;have n2:New w1 (w1.alloc (.cells #[.int .u8 1,.string T,I nu,I (at_:Int)] 98)):=(New.refl w1).alloc _;have hbF:=fX w1 (.int .u8 1) (.string T) (I nu) (I (at_:Int));obtain⟨p0,p1,p2,p3,-,hp⟩:=eX hbF;have N2:=Lib.hid ((HN0.out.trans n1).trans n2);have hs1:w.heap.size<w1.heap.size:=by have:=n1.size;simp at this;omega
 have hIS:ItS ((w1.alloc (.cells #[.int .u8 1,.string T,I nu,I (at_:Int)] 98)).alloc (.cells (cJ at_) ItT)) G (w1.heap.size+1) l a c k (cJ at_) ((w1.alloc (.cells #[.int .u8 1,.string T,I nu,I (at_:Int)] 98)).alloc (.cells (cJ at_) ItT)):=
  ⟨H.out.new (N2.out.alloc _),by have:=heap_alloc_new (w1.alloc (.cells #[.int .u8 1,.string T,I nu,I (at_:Int)] 98)) (.cells (cJ at_) ItT);simpa using this,Keeps.refl _ _,by omega,fun h=>by have:=HOB.out _ h;omega⟩
 have hRb:((w1.alloc (.cells #[.int .u8 1,.string T,I nu,I (at_:Int)] 98)).alloc (.cells (cJ at_) ItT)).heap[w.heap.size]? =some (.cells #[.int .u8 0,.string ⟨#[]⟩,.string ⟨#[]⟩,.slice none 0 0,.string ⟨#[]⟩,I 0,I 0,.string ⟨#[]⟩,I 0,I 0,I 0] ItT (0,0)):=Keeps.heap ((n1.trans n2).alloc _) HBR.out (fun h=>h);have HRB:=Lib.hid hRb;have NW:=Lib.hid (N2.out.alloc (.cells (cJ at_) ItT));have hXw:w.heap.size<=w1.heap.size+1:=by omega
 clear hRb n1 n2 hbF hnx;have hGX:G≠w1.heap.size+1:=by omega
 have hXG:w1.heap.size+1≠G:=by omega
 have hGF:G≠w1.heap.size:=by omega
 have hFG:w1.heap.size≠G:=by omega
 obtain⟨-,c1,z1,hG⟩:=hIS.p.cells;have hw1:IntKind.i64.wrap ((k:Int)+1)=(k:Int)+1:=IntWalk.i64_in _ (by omega);have e4:((k+1:Nat):Int)=(k:Int)+1:=by omega
 have hq0:=hIS.go (k+1);rw[e4] at hq0;simp only[cJ,sLs] at hq0;have H1:=Lib.hid hq0;clear hq0 hIS e4;have dr:=wE _ G (w1.heap.size+1) l a c (k+1) at_ he H1.out.here hk1;go_wp2_with fail;refine dr.mono ?_;intro e w2 hq;clear dr;unfold ux at hq;cases hr:fE at_ l (k+1) with
 |bad j=>
  rw[hr] at hq;obtain⟨rfl,kb⟩:=hq;go_wp2
  refine bF rfl ?_;rw[<-da.out,HRW.out,hr,PR.bind_bad];exact⟨rfl,ItS.fin NW.out (H1.out.ks.trans kb (fun _ _ h=>h)) hXw⟩
 |good x k2=>
 rw[hr] at hq;obtain⟨rfl,ao,co,Cx,ho⟩:=hq;have HR1:=Lib.hid hr;have hk2:k2<l.length:=(he.edge hr).1;have HOX:=Lib.hid (ho.base (B':=w.heap.size) (by have hz:=H1.out.ks.size;simp at hz ⊢;omega));obtain⟨xk,xn,xt,xs,⟨fn,fp,fa⟩,⟨tn,tp,ta⟩,xa⟩:=x;have H2:Hid (ItS _ G (w1.heap.size+1) l a c k2 #[.int .u8 xk,.string ⟨xn.toArray⟩,.string ⟨xt.toArray⟩,.slice ao xs.length co,.string ⟨fn.toArray⟩,I fp,I (fa:Int),.string ⟨tn.toArray⟩,I tp,I (ta:Int),I (xa:Int)] w2):=Lib.hid (ItS.tr H1.out.ks Cx);clear hr Cx ho H1;have dr:=dM _ G l a c k2 [59] H2.out.p hk2;go_wp2_with fail;refine dr.mono ?_;intro e w3 hq;clear dr;rcases hq.inv with⟨j,hr,rfl,kb⟩|⟨u,k3,hr,rfl,hpp,kk⟩
 ·clear hq;go_wp2
  refine bF rfl ?_;rw[<-da.out,HRW.out];rw[HR1.out,PR.bind_good,hr,PR.bind_bad];exact⟨rfl,ItS.fin NW.out (H2.out.bad kb) hXw⟩
 have HR2:=Lib.hid hr;have hk3:=(he.must hr (by decide)).1;have bh:=H2.out.call hpp kk;have hox:bc _ w.heap.size ao co _:=al HOX.out kk (fun g hg=>⟨_,_,_,hg▸H2.out.p.bk,by decide⟩);clear HOX;have HOX:=Lib.hid hox;clear hox;clear hq hr hpp kk H2;have hb:=bh.b;have hq0:=bh;(try simp only[cJ,sLs] at hq0)
 have H3:=Lib.hid hq0;clear hq0 bh hb;have hb:=H3.out.b;obtain⟨⟨y0,y1,y2,y3,y4,y5,y6,y7,y8,y9,y10⟩,-,hX⟩:=aF hb;have hbR:=H3.out.ks.heap HRB.out (fun h=>by rcases h with h|h<;>omega);obtain⟨⟨r0,r1,r2,r3,r4,r5,r6,r7,r8,r9,r10⟩,z,hR⟩:=aF hbR;have x0:=z 0;have x1:=z 1;have x2:=z 2;have x3:=z 3;have x4:=z 4;have x5:=z 5;have x6:=z 6;have x7:=z 7;have x8:=z 8;have x9:=z 9;have x10:=z 10;have hst:=jY hbR (.int .u8 xk) (.string ⟨xn.toArray⟩) (.string ⟨xt.toArray⟩) (.slice ao xs.length co) (.string ⟨fn.toArray⟩) (I fp) (I (fa:Int)) (.string ⟨tn.toArray⟩) (I tp) (I (ta:Int)) (I (xa:Int));have hPf:=H3.out.p.keeps hst.2 (fun h=>by omega) (fun g hg h=>by have:=HOB.out g hg;omega);have hKf:=(ItS.fin NW.out H3.out.ks hXw).trans hst.2 (fun i hi h=>by omega);have hOf:=HOX.out.it hbR (by decide) hst.2;have hbf:=hst.1;have HFF:=Lib.hid hbf;have HFP:=Lib.hid (And.intro hPf (And.intro hKf hOf));clear hst hPf hKf hbf hb hbR z H3 hOf;go_wp2_with fail;have hbf:=HFF.out;have hff:=HFP.out;clear HFF HFP y0 y1 y2 y3 y4 y5 y6 y7 y8 y9 y10 r0 r1 r2 r3 r4 r5 r6 r7 r8 r9 r10 x0 x1 x2 x3 x4 x5 x6 x7 x8 x9 x10;generalize(((((((((((w3.setCell ⟨w.heap.size,0,none⟩ (.int .u8 xk)).setCell ⟨w.heap.size,1,none⟩ (.string ⟨xn.toArray⟩)).setCell ⟨w.heap.size,2,none⟩ (.string ⟨xt.toArray⟩)).setCell ⟨w.heap.size,3,none⟩ (.slice ao xs.length co)).setCell ⟨w.heap.size,4,none⟩ (.string ⟨fn.toArray⟩)).setCell ⟨w.heap.size,5,none⟩ (I fp)).setCell ⟨w.heap.size,6,none⟩ (I (fa:Int))).setCell ⟨w.heap.size,7,none⟩ (.string ⟨tn.toArray⟩)).setCell ⟨w.heap.size,8,none⟩ (I tp)).setCell ⟨w.heap.size,9,none⟩ (I (ta:Int))).setCell ⟨w.heap.size,10,none⟩ (I (xa:Int)))=Wf at hbf hff ⊢;obtain⟨⟨r0,r1,r2,r3,r4,r5,r6,r7,r8,r9,r10⟩,-,-⟩:=aF hbf;refine bodyPost_ret (v:= .agg #[.int .u8 xk,.string ⟨xn.toArray⟩,.string ⟨xt.toArray⟩,.slice ao xs.length co,.string ⟨fn.toArray⟩,I fp,I (fa:Int),.string ⟨tn.toArray⟩,I tp,I (ta:Int),I (xa:Int)]) (by simp[results,Tryz.results52,go_sem,r0,r1,r2,r3,r4,r5,r6,r7,r8,r9,r10]) rfl ?_;rw[<-da.out,HRW.out];rw[HR1.out,PR.bind_good,HR2.out,PR.bind_good];have h9:bc Wf w.heap.size ao co xs:=hff.2.2;have h8:=hff.1;have h7:=hff.2.1;clear hff;simp only[fL];exact⟨ao,co,rfl,h9,h8,h7⟩
theorem pW (w:World) (G:Nat) (l:List LTok) (a:Option Addr) (c k:Nat) (he:dT l) (h:PAt w G l a c k) (hk:k<l.length):
  Calls Tryz.prog 52 #[.pointer (some ⟨G,0,none⟩)] w (fL w G l a c (bN l k)):=by
 have hg:=List.getElem?_eq_getElem hk;obtain⟨t,ht⟩:∃t,l[k]=t:=⟨_,rfl⟩
 rw[ht] at hg;obtain⟨so,tx,nu,at_⟩:=t;by_cases hs:so=1
 ·subst hs;by_cases h1:tx=fN
  ·exact sj w G l a c k he h tx nu at_ hg h1
  ·by_cases h2:tx=ib
   ·exact tX w G l a c k he h tx nu at_ hg h2
   ·by_cases h3:tx=inW
    ·exact zf w G l a c k he h tx nu at_ hg h3
    ·by_cases h4:tx=mH
     ·exact wF w G l a c k he h tx nu at_ hg h4
     ·exact sn w G l a c k he h tx nu at_ hg h1 h2 h3 h4
 ·exact tY w G l a c k he h so tx nu at_ hg hs
end Go.Proofs.YtnedmonlofbahaaGreatDoor
