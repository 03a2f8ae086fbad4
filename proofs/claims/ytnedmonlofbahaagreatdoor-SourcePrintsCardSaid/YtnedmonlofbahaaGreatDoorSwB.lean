/-
  SkH, SkI: what is wanted of them.
-/
import Derived.Test.YtnedmonlofbahaaGreatDoorSwA
import Derived.Deep.DeepCutAuto
import Derived.Deep.CutBlock
namespace Go.Proofs.YtnedmonlofbahaaGreatDoor
open Go Go.RowKit Go.Joins
set_option linter.all false
def aD (n:ByteArray) (p:Int):List UInt8:=n.data.toList++46::Lib.itoa p
def ak (xs:List Int):List UInt8:=xs.flatMap fun n=>32::Lib.itoa n
def bP (x:SIt):List UInt8:=
 if x.kind=1 then[32,32,97,99,116,111,114,32]++x.name.data.toList++[32,61,32]++x.tag.data.toList
 else if x.kind=2 then[32,32,101,100,103,101,32]++aD x.fn x.fp++[32,45,62,32]++aD x.tn x.tp++(if x.xs=[] then[] else[32,119,105,116,104])
 else if x.kind=3 then[32,32,105,110,32]++x.name.data.toList++[32,45,62,32]++aD x.tn x.tp
 else if x.kind=4 then[32,32,111,117,116,32]++aD x.fn x.fp++[32,45,62,32]++x.name.data.toList
 else[]
def bw (x:SIt):List UInt8:=bP x++ak x.xs++[59,10]
def bL (n:ByteArray):Bool:=n.toList.isEmpty
def de (n:ByteArray) (p:Int):Bool:=bL n&&(p==0)
def aP (x:SIt):Bool:=
 if x.kind=1 then aM x.name&&aM x.tag&&de x.fn x.fp&&de x.tn x.tp
 else if x.kind=2 then bL x.name&&bL x.tag&&aM x.fn&&aM x.tn
 else if x.kind=3 then aM x.name&&bL x.tag&&(x.xs.length==0)&&de x.fn x.fp&&aM x.tn
 else if x.kind=4 then aM x.name&&bL x.tag&&(x.xs.length==0)&&aM x.fn&&de x.tn x.tp
 else false
def bY (s:Sk):List UInt8:=[103,114,97,112,104,32]++s.name.data.toList++[32,123,10]++s.items.flatMap bw++[125,10]
def bJ (s:Sk):List UInt8×Int:=
 if(aM s.name&&s.items.all aP)=false then([],1) else if 1048576<(bY s).length then([],2) else(bY s,0)
set_option maxRecDepth 100000 in
set_option maxHeartbeats 4000000 in
theorem mH (w:World) (n:ByteArray) (p a:Int):Calls Tryz.prog 114 #[.agg #[.string n,I p,I a]] w fun e w'=>e= .returned (.bool (de n p))∧New w w':=by
 have nb:New w (w.alloc (.cells #[.string n,I p,I a] 103)):=(New.refl w).alloc _;obtain⟨c0,c1,c2,-,hR⟩:=is (kN w (.string n) (I p) (I a));unfold de bL;cases h1:n.toList.isEmpty with
 |false=>
  go_enter Tryz.func114,Tryz.ntmps114;go_wp2_with fail;go_ret
  exact⟨rfl,nb⟩
 |true=>
  cases h2:(p==0) with
  |false=>
   go_enter Tryz.func114,Tryz.ntmps114;go_wp2_with fail;go_ret
   exact⟨rfl,nb⟩
  |true=>
   go_enter Tryz.func114,Tryz.ntmps114;go_wp2_with fail;go_ret
   exact⟨rfl,nb⟩
structure ISz (x:SIt):Prop where
 n:x.name.size<=9223372036854775807
 t:x.tag.size<=9223372036854775807
 f:x.fn.size<=9223372036854775807
 o:x.tn.size<=9223372036854775807
set_option maxRecDepth 100000 in
set_option maxHeartbeats 8000000 in
theorem mv (w:World) (x:SIt) (hz:ISz x) (hl:x.xs.length<=9223372036854775807):Calls Tryz.prog 72 #[.agg (itA x)] w fun e w'=>e= .returned (.bool (aP x))∧New w w':=by
 obtain⟨kind,name,tag,sa,sc,xs,fn,fp,fa,tn,tp,ta,at_⟩:=x;have nb:New w (w.alloc (.cells #[.int .u8 kind,.string name,.string tag,.slice sa xs.length sc,.string fn,I fp,I fa,.string tn,I tp,I ta,I at_] ItT)):=(New.refl w).alloc _;obtain⟨⟨c0,c1,c2,c3,c4,c5,c6,c7,c8,c9,c10⟩,-,hX⟩:=aN (heap_alloc_new w (.cells #[.int .u8 kind,.string name,.string tag,.slice sa xs.length sc,.string fn,I fp,I fa,.string tn,I tp,I ta,I at_] ItT));have hnm:=fun W=>eR W name hz.n
 have htg:=fun W=>eR W tag hz.t
 have hfn:=fun W=>eR W fn hz.f
 have htn:=fun W=>eR W tn hz.o
 have hbf:=fun W=>mH W fn fp fa
 have hbt:=fun W=>mH W tn tp ta
 unfold aP;simp only[itA];clear hz;generalize aM name=bn at hnm ⊢;generalize aM tag=bt at htg ⊢;generalize aM fn=bf at hfn ⊢;generalize aM tn=bo at htn ⊢;generalize de fn fp=rf at hbf ⊢;generalize de tn tp=rt at hbt ⊢;obtain⟨n,hn⟩:∃n,xs.length=n:=⟨_,rfl⟩
 simp only[hn] at c0 c1 c2 c3 c4 c5 c6 c7 c8 c9 c10 nb hX hl ⊢;clear hn;obtain⟨em,hem⟩:∃b,bL name=b:=⟨_,rfl⟩
 obtain⟨et,het⟩:∃b,bL tag=b:=⟨_,rfl⟩
 rw[hem,het];unfold bL at hem het;obtain⟨ez,hez⟩:∃b,((n:Int)==0)=b:=⟨_,rfl⟩
 have hez2:(n==0)=ez:=by rw[<-hez];cases n<;>simp<;>omega
 rw[hez2];have HEZ:=Lib.hid hez;have HEM:=Lib.hid hem;have HET:=Lib.hid het;clear hez hez2 hem het;have HNB:=Lib.hid nb;have hcs:=fun W (k:New _ W)=>And.intro (New.cell k c0) (And.intro (New.cell k c1) (And.intro (New.cell k c2) (And.intro (New.cell k c3) (And.intro (New.cell k c4) (And.intro (New.cell k c5) (And.intro (New.cell k c6) (And.intro (New.cell k c7) (And.intro (New.cell k c8) (New.cell k c9)))))))))
 have HCS:=Lib.hid hcs;obtain⟨PO,hPO⟩:∃PO:Ending->World->Prop,PO=fun e w'=>e= .returned (.bool (if kind=1 then bn&&bt&&rf&&rt else if kind=2 then em&&et&&bf&&bo else if kind=3 then bn&&et&&ez&&rf&&bo else if kind=4 then bn&&et&&ez&&bf&&rt else false))∧New w w':=⟨_,rfl⟩
 rw[<-hPO];have HPO:=Lib.hid hPO;clear hPO nb hcs;go_enter Tryz.func72,Tryz.ntmps72;go_wp2_with fail;have hS0:(fun w':World=>w'.cell? ⟨w.heap.size,1,none⟩=some (.string name)∧w'.cell? ⟨w.heap.size,2,none⟩=some (.string tag)) (w.alloc (.cells #[.int .u8 kind,.string name,.string tag,.slice sa n sc,.string fn,I fp,I fa,.string tn,I tp,I ta,I at_] ItT)).drew:=⟨c1,c2⟩
 refine ar (fun w':World=>w'.cell? ⟨w.heap.size,1,none⟩=some (.string name)∧w'.cell? ⟨w.heap.size,2,none⟩=some (.string tag)) [] (by kernel_rfl) hS0 ?_;refine ae 0 hS0 ?_;refine ae 1 hS0 ?_;refine ae 3 hS0 ?_;refine ae 4 hS0 ?_;refine ae 5 hS0 ?_;refine ah 2 ?_;intro K hK;(try simp only[Act.put,sLs])
 go_simp;refine(hnm _).mono ?_;rintro e w1 ⟨rfl,n1⟩;have n01:New (w.alloc (.cells #[.int .u8 kind,.string name,.string tag,.slice sa n sc,.string fn,I fp,I fa,.string tn,I tp,I ta,I at_] ItT)) w1:=(New.refl _).drew.trans n1;have hS1:(fun w':World=>w'.cell? ⟨w.heap.size,1,none⟩=some (.string name)∧w'.cell? ⟨w.heap.size,2,none⟩=some (.string tag)) w1:=⟨n01.cell c1,n01.cell c2⟩
 refine hK _ _ (fun _=>hS1) ?_;clear hK K hS0;refine ae 6 hS1 ?_;refine ae 7 hS1 ?_;refine aB (by kernel_rfl) ?_;(try simp only[Act.put,sLs])
 simp only[Exit.then];have HN1:=Lib.hid n01;clear n1 n01 hS1;go_wp2_with fail;have hcs:=HCS.out _ HN1.out;go_cut [5,6] (fun c d w'=>c= .bool bf∧d= .bool bo∧Hid (New (w.alloc (.cells #[.int .u8 kind,.string name,.string tag,.slice sa n sc,.string fn,I fp,I fa,.string tn,I tp,I ta,I at_] ItT)) w'))
 case first=>
  have f4:=hcs.2.2.2.2.1;have f7:=hcs.2.2.2.2.2.2.2.1;clear hcs;have hS0:(fun w':World=>w'.cell? ⟨w.heap.size,4,none⟩=some (.string fn)∧w'.cell? ⟨w.heap.size,7,none⟩=some (.string tn)) w1.drew:=⟨f4,f7⟩
  refine ar (fun w':World=>w'.cell? ⟨w.heap.size,4,none⟩=some (.string fn)∧w'.cell? ⟨w.heap.size,7,none⟩=some (.string tn)) [] (by kernel_rfl) hS0 ?_;refine ae 0 hS0 ?_;refine ae 1 hS0 ?_;refine ae 2 hS0 ?_;refine ae 4 hS0 ?_;refine ae 5 hS0 ?_;refine ae 6 hS0 ?_;refine ah 3 ?_;intro K hK;(try simp only[Act.put,sLs])
  go_simp;refine(hfn _).mono ?_;rintro e w2 ⟨rfl,n2⟩;have n02:New w1 w2:=(New.refl _).drew.trans n2;have hS2:(fun w':World=>w'.cell? ⟨w.heap.size,4,none⟩=some (.string fn)∧w'.cell? ⟨w.heap.size,7,none⟩=some (.string tn)) w2:=⟨n02.cell f4,n02.cell f7⟩
  refine hK _ _ (fun _=>hS2) ?_;clear hK K hS0;refine ah 7 ?_;intro K hK;(try simp only[Act.put,sLs])
  go_simp;refine(htn _).mono ?_;rintro e w3 ⟨rfl,n3⟩;have n03:New w1 w3:=n02.trans n3;have hS3:(fun w':World=>w'.cell? ⟨w.heap.size,4,none⟩=some (.string fn)∧w'.cell? ⟨w.heap.size,7,none⟩=some (.string tn)) w3:=⟨n03.cell f4,n03.cell f7⟩
  refine hK _ _ (fun _=>hS3) ?_;clear hK K hS2;refine ae 8 hS3 ?_;refine ae 9 hS3 ?_;refine aB (by kernel_rfl) ?_;(try simp only[Act.put,sLs])
  (try simp only[Exit.then])
  go_wp2
  go_meet
  case rel=>exact⟨rfl,rfl,Lib.hid (HN1.out.trans n03)⟩
 case rest=>
  clear hcs c0 c1 c2 c3 c4 c5 c6 c7 c8 c9 c10;obtain⟨rfl,rfl,HNX⟩:=hcut;obtain⟨b0,b1,b2,b3,b4,b5,b6,b7,b8,b9⟩:=HCS.out _ HNX.out;have hez:=HEZ.out;have hem:=HEM.out;have het:=HET.out;by_cases h1:kind=1
  ·subst h1;cases bn with
   |false=>
    go_wp2_with fail;(try go_ret)
    rw[HPO.out];exact⟨by simp,HNB.out.trans HNX.out⟩
   |true=>
    cases bt with
    |false=>
     go_wp2_with fail;refine(htg _).mono ?_;rintro e v1 ⟨rfl,m1⟩;obtain⟨-,-,a2,-,a4,a5,a6,a7,a8,a9⟩:=HCS.out _ (HNX.out.trans m1);go_wp2_with fail;(try go_ret)
     rw[HPO.out];exact⟨by simp,HNB.out.trans (HNX.out.trans m1)⟩
    |true=>
     go_wp2_with fail;refine(htg _).mono ?_;rintro e v1 ⟨rfl,m1⟩;obtain⟨-,-,a2,-,a4,a5,a6,a7,a8,a9⟩:=HCS.out _ (HNX.out.trans m1);cases rf with
     |false=>
      go_wp2_with fail;refine(hbf _).mono ?_;rintro e v2 ⟨rfl,m2⟩;obtain⟨-,-,a2,-,a4,a5,a6,a7,a8,a9⟩:=HCS.out _ ((HNX.out.trans m1).trans m2);go_wp2_with fail;(try go_ret)
      rw[HPO.out];exact⟨by simp,HNB.out.trans ((HNX.out.trans m1).trans m2)⟩
     |true=>
      go_wp2_with fail;refine(hbf _).mono ?_;rintro e v2 ⟨rfl,m2⟩;obtain⟨-,-,a2,-,a4,a5,a6,a7,a8,a9⟩:=HCS.out _ ((HNX.out.trans m1).trans m2);cases rt with
      |false=>
       go_wp2_with fail;refine(hbt _).mono ?_;rintro e v3 ⟨rfl,m3⟩;obtain⟨-,-,a2,-,a4,a5,a6,a7,a8,a9⟩:=HCS.out _ (((HNX.out.trans m1).trans m2).trans m3);go_wp2_with fail;(try go_ret)
       rw[HPO.out];exact⟨by simp,HNB.out.trans (((HNX.out.trans m1).trans m2).trans m3)⟩
      |true=>
       go_wp2_with fail;refine(hbt _).mono ?_;rintro e v3 ⟨rfl,m3⟩;obtain⟨-,-,a2,-,a4,a5,a6,a7,a8,a9⟩:=HCS.out _ (((HNX.out.trans m1).trans m2).trans m3);go_wp2_with fail;(try go_ret)
       rw[HPO.out];exact⟨by simp,HNB.out.trans (((HNX.out.trans m1).trans m2).trans m3)⟩
  ·have d1:(kind==1)=false:=by simpa using h1
   by_cases h2:kind=2
   ·subst h2;cases em with
    |false=>
     go_wp2_with fail;(try go_ret)
     rw[HPO.out];exact⟨by simp,HNB.out.trans HNX.out⟩
    |true=>
     cases et with
     |false=>
      go_wp2_with fail;(try go_ret)
      rw[HPO.out];exact⟨by simp,HNB.out.trans HNX.out⟩
     |true=>
      cases bf with
      |false=>
       go_wp2_with fail;(try go_ret)
       rw[HPO.out];exact⟨by simp,HNB.out.trans HNX.out⟩
      |true=>
       cases bo with
       |false=>
        go_wp2_with fail;(try go_ret)
        rw[HPO.out];exact⟨by simp,HNB.out.trans HNX.out⟩
       |true=>
        go_wp2_with fail;(try go_ret)
        rw[HPO.out];exact⟨by simp,HNB.out.trans HNX.out⟩
   ·have d2:(kind==2)=false:=by simpa using h2
    by_cases h3:kind=3
    ·subst h3;cases bn with
     |false=>
      go_wp2_with fail;(try go_ret)
      rw[HPO.out];exact⟨by simp,HNB.out.trans HNX.out⟩
     |true=>
      cases et with
      |false=>
       go_wp2_with fail;(try go_ret)
       rw[HPO.out];exact⟨by simp,HNB.out.trans HNX.out⟩
      |true=>
       cases ez with
       |false=>
        go_wp2_with fail;(try go_ret)
        rw[HPO.out];exact⟨by simp,HNB.out.trans HNX.out⟩
       |true=>
        cases rf with
        |false=>
         go_wp2_with fail;refine(hbf _).mono ?_;rintro e v1 ⟨rfl,m1⟩;obtain⟨-,-,a2,-,a4,a5,a6,a7,a8,a9⟩:=HCS.out _ (HNX.out.trans m1);go_wp2_with fail;(try go_ret)
         rw[HPO.out];exact⟨by simp,HNB.out.trans (HNX.out.trans m1)⟩
        |true=>
         go_wp2_with fail;refine(hbf _).mono ?_;rintro e v1 ⟨rfl,m1⟩;obtain⟨-,-,a2,-,a4,a5,a6,a7,a8,a9⟩:=HCS.out _ (HNX.out.trans m1);cases bo with
         |false=>
          go_wp2_with fail;(try go_ret)
          rw[HPO.out];exact⟨by simp,HNB.out.trans (HNX.out.trans m1)⟩
         |true=>
          go_wp2_with fail;(try go_ret)
          rw[HPO.out];exact⟨by simp,HNB.out.trans (HNX.out.trans m1)⟩
    ·have d3:(kind==3)=false:=by simpa using h3
     by_cases h4:kind=4
     ·subst h4;cases bn with
      |false=>
       go_wp2_with fail;(try go_ret)
       rw[HPO.out];exact⟨by simp,HNB.out.trans HNX.out⟩
      |true=>
       cases et with
       |false=>
        go_wp2_with fail;(try go_ret)
        rw[HPO.out];exact⟨by simp,HNB.out.trans HNX.out⟩
       |true=>
        cases ez with
        |false=>
         go_wp2_with fail;(try go_ret)
         rw[HPO.out];exact⟨by simp,HNB.out.trans HNX.out⟩
        |true=>
         cases bf with
         |false=>
          go_wp2_with fail;(try go_ret)
          rw[HPO.out];exact⟨by simp,HNB.out.trans HNX.out⟩
         |true=>
          cases rt with
          |false=>
           go_wp2_with fail;refine(hbt _).mono ?_;rintro e v1 ⟨rfl,m1⟩;obtain⟨-,-,a2,-,a4,a5,a6,a7,a8,a9⟩:=HCS.out _ (HNX.out.trans m1);go_wp2_with fail;(try go_ret)
           rw[HPO.out];exact⟨by simp,HNB.out.trans (HNX.out.trans m1)⟩
          |true=>
           go_wp2_with fail;refine(hbt _).mono ?_;rintro e v1 ⟨rfl,m1⟩;obtain⟨-,-,a2,-,a4,a5,a6,a7,a8,a9⟩:=HCS.out _ (HNX.out.trans m1);go_wp2_with fail;(try go_ret)
           rw[HPO.out];exact⟨by simp,HNB.out.trans (HNX.out.trans m1)⟩
     ·have d4:(kind==4)=false:=by simpa using h4
      have HH:=Lib.hid (And.intro h1 (And.intro h2 (And.intro h3 h4)));clear h1 h2 h3 h4;go_wp2_with fail;(try go_ret)
      rw[HPO.out];obtain⟨h1,h2,h3,h4⟩:=HH.out;exact⟨by simp[h1,h2,h3,h4],HNB.out.trans HNX.out⟩
end Go.Proofs.YtnedmonlofbahaaGreatDoor
namespace Go.Proofs.YtnedmonlofbahaaGreatDoor
open Go Go.RowKit Go.Joins
set_option linter.all false
theorem KZ.nw {w0 w w':World} {B:Nat} (h:KZ B w w') (hB:w0.heap.size<=B) (n:New w0 w):New w0 w':=New.keeps n h (fun i hi ⟨hb,_⟩=>by omega)
theorem Bd.lt {w:World} {B b:Nat} {l:List UInt8} (h:Bd w B b l):b<w.heap.size∧B<=w.heap.size:=by
 obtain⟨p,a,c,-,h⟩:=h;have h1:=(Array.getElem?_eq_some_iff.1 h.bk).1;have h2:=h.hB;omega
theorem gw (w:World) (n:Int) (h0: -9223372036854775808<=n) (h1:n<=9223372036854775807) (he:Env w):
  Calls Tryz.prog 117 #[I n] w fun e w'=>e= .returned (.string (cC n))∧New w w':=by
 refine(Tryz.strconv_Itoa n h0 h1 w he.tab).mono ?_;rintro e w' ⟨rfl,k,os,rfl⟩;exact⟨rfl,((New.refl w).drewN k).trans (pJ _ os)⟩
theorem ku (n:Int):(cC n).data.toList=Lib.itoa n:=rfl
theorem fz (n:Int) (h0: -9223372036854775808<=n) (h1:n<=9223372036854775807):(cC n).size<=21:=by
 have:=Lib.itoa_length_le n h0 h1;rw[<-ai,ku];exact this
set_option maxRecDepth 100000 in
set_option maxHeartbeats 4000000 in
theorem fD (w0 w:World) (B b:Nat) (l:List UInt8) (he:Env w0) (hB:w0.heap.size<=B) (n0:New w0 w) (h:Bd w B b l) (fn:ByteArray) (fp fa:Int) (h0: -9223372036854775808<=fp) (h1:fp<=9223372036854775807) (hf:fn.size<=1000) (hl:l.length<=100000000):
  Calls Tryz.prog 116 #[.pointer (some ⟨b,0,none⟩),.agg #[.string fn,I fp,I fa]] w fun e w'=>e= .returned (.tuple #[])∧Bd w' B b (l++aD fn fp)∧KZ B w w':=by
 have nb:New w (w.alloc (.cells #[.string fn,I fp,I fa] 103)):=(New.refl w).alloc _;have hbk:=kN w (.string fn) (I fp) (I fa);obtain⟨c0,c1,c2,-,hR⟩:=is hbk;have HBK:=Lib.hid hbk;have hb1:=h.new nb;have hw1:=bC _ B b l fn hb1 (by omega) hb1.lt.2;have kb:KZ B w (w.alloc (.cells #[.string fn,I fp,I fa] 103)):=KY.of_new nb;have hfl:(l++fn.data.toList).length<=100001000:=by rw[List.length_append,ai];omega
 have HL:=Lib.hid hfl;have KB:=Lib.hid kb;have HN:=Lib.hid n0;clear hbk h hb1 nb kb hfl;go_enter Tryz.func116,Tryz.ntmps116;go_wp2_with fail;refine hw1.mono ?_;rintro e w1 ⟨rfl,b1,k1⟩;have K1:=Lib.hid (KB.out.trans k1);have hbk1:=k1.heap HBK.out (by simp[bdO]);obtain⟨x0,x1,x2,-,hR1⟩:=is hbk1;have HBK1:=Lib.hid hbk1;have hw2:=rI w1 B b _ 46 b1 (by have:=HL.out;omega) b1.lt.2;clear hw1 k1 hbk1 c0 c1 c2 hR;go_wp2_with fail;refine hw2.mono ?_;rintro e w2 ⟨rfl,b2,k2⟩;have K2:=Lib.hid (K1.out.trans k2);have hbk2:=k2.heap HBK1.out (by simp[bdO]);obtain⟨y0,y1,y2,-,hR2⟩:=is hbk2;have HB2:=Lib.hid b2;have hit:=gw w2 fp h0 h1 (he.new (KZ.nw K2.out hB HN.out));clear hw2 k2 hbk2 x0 x1 x2 hR1 b1 b2;go_wp2_with fail;refine hit.mono ?_;rintro e w3 ⟨rfl,n3⟩;have b3:=HB2.out.new n3;have hw3:=bC w3 B b _ (cC fp) b3 (by have:=HL.out;have:=fz fp h0 h1;rw[List.length_append];simp only[List.length_singleton];omega) b3.lt.2;have K3:=Lib.hid (K2.out.trans (KY.of_new n3));clear hit n3 b3;go_wp2_with fail;refine hw3.mono ?_;rintro e w4 ⟨rfl,b4,k4⟩;go_wp2_with fail;go_end0
 refine⟨rfl,?_,K3.out.trans k4⟩;rw[ku] at b4;unfold aD;rw[show l++(fn.data.toList++46::Lib.itoa fp)=l++fn.data.toList++[46]++Lib.itoa fp by simp];exact b4
theorem bh {s:ByteArray} (h:aM s=true):s.size<=16:=by
 rw[fi] at h;rw[<-ai];cases hs:s.data.toList with
 |nil=>simp
 |cons c r=>
  rw[hs] at h;simp only[eA,Bool.and_eq_true,decide_eq_true_iff] at h;have:=h.2.2;simp only[List.length_cons];omega
theorem cn (n:ByteArray) (p:Int) (h:n.size<=16) (h0: -9223372036854775808<=p) (h1:p<=9223372036854775807):(aD n p).length<=38:=by
 unfold aD;have:=Lib.itoa_length_le p h0 h1;rw[List.length_append,List.length_cons,ai];omega
theorem cT (xs:List Int) (k:Nat) (h:k<xs.length):ak (xs.take (k+1))=ak (xs.take k)++32::Lib.itoa xs[k]:=by
 unfold ak;rw[List.take_succ_eq_append_getElem h,List.flatMap_append];simp
theorem lN (xs:List Int) (k:Nat):ak (xs.take k)<+:ak xs:=by
 unfold ak;conv=>rhs;rw[<-List.take_append_drop k xs]
 rw[List.flatMap_append];exact List.prefix_append _ _
def gq (w:World) (B b:Nat) (l:List UInt8) (x:SIt) (e:Ending) (w':World):Prop:=e= .returned (.tuple #[])∧KZ B w w'∧∃l',Bd w' B b (l++l')∧l'<+:bw x∧(l'=bw x∨1048576<(l++l').length)∧(l++l').length<=1048800
structure IBnd (x:SIt):Prop where
 p0: -9223372036854775808<=x.fp∧x.fp<=9223372036854775807
 p1: -9223372036854775808<=x.tp∧x.tp<=9223372036854775807
 xs:∀n∈x.xs,-9223372036854775808<=n∧n<=9223372036854775807
 ln:x.xs.length<=9223372036854775807
theorem gN {w w':World} {B b:Nat} {l L0:List UInt8} {x:SIt} {e:Ending} (he:e= .returned (.tuple #[])) (hk:KZ B w w') (h0:L0=l++bP x) (hb:Bd w' B b (L0++ak x.xs++[59,10])) (hl:(L0++ak x.xs).length<=1048700):gq w B b l x e w':=by
 subst h0;refine⟨he,hk,bw x,?_,List.prefix_refl _,.inl rfl,?_⟩
 ·unfold bw;have e:l++(bP x++ak x.xs++[59,10])=l++bP x++ak x.xs++[59,10]:=by simp
  rw[e];exact hb
 ·unfold bw;have e:l++(bP x++ak x.xs++[59,10])=(l++bP x++ak x.xs)++[59,10]:=by simp
  rw[e,List.length_append];simp only[List.length_cons,List.length_nil];omega
theorem gM {w w':World} {B b:Nat} {l L0:List UInt8} {x:SIt} {e:Ending} {k:Nat} (he:e= .returned (.tuple #[])) (hk:KZ B w w') (h0:L0=l++bP x) (hb:Bd w' B b (L0++ak (x.xs.take k))) (hl:(L0++ak (x.xs.take k)).length<=1048700) (hbig:1048576<(L0++ak (x.xs.take k)).length):gq w B b l x e w':=by
 subst h0;refine⟨he,hk,bP x++ak (x.xs.take k),by rw[<-List.append_assoc];exact hb,?_,.inr (by rw[<-List.append_assoc];exact hbig),by rw[<-List.append_assoc];omega⟩;obtain⟨r,hr⟩:=lN x.xs k;refine⟨r++[59,10],?_⟩;unfold bw;rw[<-hr];simp
set_option maxRecDepth 100000 in
set_option maxHeartbeats 8000000 in
theorem nU (w0 w:World) (B b:Nat) (l:List UInt8) (he:Env w0) (hB:w0.heap.size<=B) (n0:New w0 w) (h:Bd w B b l) (name tag:ByteArray) (sa:Option Addr) (sc:Nat) (xs:List Int) (fn:ByteArray) (fp fa:Int) (tn:ByteArray) (tp ta at_:Int) (hx:am w0 sa (Is xs)) (hr:aP ⟨1,name,tag,sa,sc,xs,fn,fp,fa,tn,tp,ta,at_⟩=true) (hd:IBnd ⟨1,name,tag,sa,sc,xs,fn,fp,fa,tn,tp,ta,at_⟩) (hl:l.length<=1048576):
  Calls Tryz.prog 75 #[.pointer (some ⟨b,0,none⟩),.agg (itA ⟨1,name,tag,sa,sc,xs,fn,fp,fa,tn,tp,ta,at_⟩)] w (gq w B b l ⟨1,name,tag,sa,sc,xs,fn,fp,fa,tn,tp,ta,at_⟩):=by
 have nb:New w (w.alloc (.cells #[.int .u8 1,.string name,.string tag,.slice sa xs.length sc,.string fn,I fp,I fa,.string tn,I tp,I ta,I at_] ItT)):=(New.refl w).alloc _;have hbk:(w.alloc (.cells #[.int .u8 1,.string name,.string tag,.slice sa xs.length sc,.string fn,I fp,I fa,.string tn,I tp,I ta,I at_] ItT)).heap[w.heap.size]? =some (.cells #[.int .u8 1,.string name,.string tag,.slice sa xs.length sc,.string fn,I fp,I fa,.string tn,I tp,I ta,I at_] ItT (0,0)):=heap_alloc_new w _;obtain⟨⟨c0,c1,c2,c3,c4,c5,c6,c7,c8,c9,c10⟩,-,hX⟩:=aN hbk;have HBK:=Lib.hid hbk;have HW1:=Lib.hid (And.intro (h.new nb) (KY.of_new (p:=bdO) (B:=B) nb));have HL1:Hid (l.length<=1048576):=Lib.hid hl;have HN:=Lib.hid n0;have HX:=Lib.hid hx;have HD:=Lib.hid hd;obtain⟨fp0,fp1⟩:=hd.p0;obtain⟨tp0,tp1⟩:=hd.p1;have hln:=hd.ln;simp only at fp0 fp1 tp0 tp1 hln;obtain⟨PO,hPO⟩:∃PO:Ending->World->Prop,PO=gq w B b l ⟨1,name,tag,sa,sc,xs,fn,fp,fa,tn,tp,ta,at_⟩:=⟨_,rfl⟩
 rw[<-hPO];have HPO:=Lib.hid hPO;replace hr:(aM name&&aM tag&&de fn fp&&de tn tp)=true:=hr;simp only[Bool.and_eq_true] at hr;have hhd:bP ⟨1,name,tag,sa,sc,xs,fn,fp,fa,tn,tp,ta,at_⟩=[32,32,97,99,116,111,114,32]++name.data.toList++[32,61,32]++tag.data.toList:=rfl;clear h hbk nb hl hx hd n0 hPO;obtain⟨⟨⟨hn,ht⟩,-⟩,-⟩:=hr;have n16:=bh hn;have t16:=bh ht;clear hn ht;obtain⟨S1,hS1⟩:∃X,(⟨#[32,32,97,99,116,111,114,32]⟩:ByteArray)++name=X:=⟨_,rfl⟩
 have hzS1:S1.size<=24:=by
  have h1:((⟨#[32,32,97,99,116,111,114,32]⟩:ByteArray)).size<=8:=(by decide)
  have h2:(name).size<=16:=n16;rw[<-hS1,ByteArray.size_append];omega
 have lS1:S1.data.toList=((⟨#[32,32,97,99,116,111,114,32]⟩:ByteArray)).data.toList++(name).data.toList:=by rw[<-hS1,ByteArray.data_append,Array.toList_append]
 have addS1:∀w:World,(Op.stringOp .add ((⟨#[32,32,97,99,116,111,114,32]⟩:ByteArray)) (name)).run Tryz.prog w= .ok (.string S1) w:=fun w=>by
  have h1:((⟨#[32,32,97,99,116,111,114,32]⟩:ByteArray)).size<=8:=(by decide)
  have h2:(name).size<=16:=n16;rw[<-hS1];exact run_string_add_sum w _ _ (by omega)
 clear hS1;obtain⟨S2,hS2⟩:∃X,S1++(⟨#[32,61,32]⟩:ByteArray)=X:=⟨_,rfl⟩
 have hzS2:S2.size<=27:=by
  have h1:(S1).size<=24:=hzS1;have h2:((⟨#[32,61,32]⟩:ByteArray)).size<=3:=(by decide)
  rw[<-hS2,ByteArray.size_append];omega
 have lS2:S2.data.toList=(S1).data.toList++((⟨#[32,61,32]⟩:ByteArray)).data.toList:=by rw[<-hS2,ByteArray.data_append,Array.toList_append]
 have addS2:∀w:World,(Op.stringOp .add (S1) ((⟨#[32,61,32]⟩:ByteArray))).run Tryz.prog w= .ok (.string S2) w:=fun w=>by
  have h1:(S1).size<=24:=hzS1;have h2:((⟨#[32,61,32]⟩:ByteArray)).size<=3:=(by decide)
  rw[<-hS2];exact run_string_add_sum w _ _ (by omega)
 clear hS2;obtain⟨S3,hS3⟩:∃X,S2++tag=X:=⟨_,rfl⟩
 have hzS3:S3.size<=43:=by
  have h1:(S2).size<=27:=hzS2;have h2:(tag).size<=16:=t16;rw[<-hS3,ByteArray.size_append];omega
 have lS3:S3.data.toList=(S2).data.toList++(tag).data.toList:=by rw[<-hS3,ByteArray.data_append,Array.toList_append]
 have addS3:∀w:World,(Op.stringOp .add (S2) (tag)).run Tryz.prog w= .ok (.string S3) w:=fun w=>by
  have h1:(S2).size<=27:=hzS2;have h2:(tag).size<=16:=t16;rw[<-hS3];exact run_string_add_sum w _ _ (by omega)
 clear hS3;go_enter Tryz.func75,Tryz.ntmps75;have hw:=bC _ B b (l) S3 HW1.out.1 (by have h1:=HL1.out;have h2:(S3).size<=43:=hzS3;omega) HW1.out.1.lt.2;go_wp2_with fail;refine hw.mono ?_;rintro e w1 ⟨rfl,b1,k1⟩;have hsz1:((S3).data.toList).length<=43:=by rw[ai];exact hzS3
 have hbk:=k1.heap HBK.out rfl;obtain⟨⟨d0,d1,d2,d3,d4,d5,d6,d7,d8,d9,d10⟩,-,hX1⟩:=aN hbk;have HBKn:=Lib.hid hbk;clear HBK;have HBK:=HBKn;clear HBKn;have HW2:=Lib.hid (And.intro b1 (HW1.out.2.trans k1));have HL2:Hid ((l++(S3).data.toList).length<=1048619):=Lib.hid (by have h1:(l).length<=1048576:=HL1.out;rw[List.length_append];omega);clear hbk b1 k1 hw c0 c1 c2 c3 c4 c5 c6 c7 c8 c9 c10 hX HW1 HL1;have c0:=d0;have c1:=d1;have c2:=d2;have c3:=d3;have c4:=d4;have c5:=d5;have c6:=d6;have c7:=d7;have c8:=d8;have c9:=d9;have c10:=d10;have hX:=hX1;clear d0 d1 d2 d3 d4 d5 d6 d7 d8 d9 d10 hX1;obtain⟨L0,hL0⟩:∃L,L=l++(S3).data.toList:=⟨_,rfl⟩
 have hLe:L0=l++bP ⟨1,name,tag,sa,sc,xs,fn,fp,fa,tn,tp,ta,at_⟩:=by rw[hL0,hhd];rw[lS3,lS2,lS1];(try simp)
 rw[<-hL0] at HW2 HL2;have HLE:=Lib.hid hLe;have hs0:Bd w1 B b (L0++ak (xs.take 0)):=by simpa[ak] using HW2.out.1
 have HS0:=Lib.hid (And.intro hs0 HW2.out.2);have HS1:Hid ((L0++ak (xs.take 0)).length<=1048700):=Lib.hid (by have h1:=HL2.out;simp[ak];omega);have HWN:=Lib.hid (KZ.nw HW2.out.2 hB HN.out);clear hL0 hLe hs0 hhd;go_wp2_with fail;go_loopw [67] (fun i wr=>∃k:Nat,k<=xs.length∧i= .int .i64 k∧Hid (Bd wr B b (L0++ak (xs.take k))∧KZ B w wr)∧Hid ((L0++ak (xs.take k)).length<=1048700)) (fun i _=>xs.length-(intOf i).toNat)
 case atStart=>exact⟨0,by omega,rfl,HS0,HS1⟩
 case round=>
  clear HS0 HS1;obtain⟨k,hk,rfl,HS,HLn⟩:=hrel;by_cases hk1:k<xs.length
  ·have hkI:(k:Int)<(xs.length:Int):=by omega
   have hkd:decide (k<xs.length)=true:=decide_eq_true hk1;have hnw:=KZ.nw HS.out.2 hB HN.out;obtain⟨bb,off,hab,q0⟩:=(HX.out.new hnw) k (by simpa[Is] using hk1);have hv:(Is xs).getD k undef=I xs[k]:=by simp[Is,hk1]
   rw[hv] at q0;have hbw:=World.block_lt_of_cell? wr _ q0;obtain⟨v0,v1⟩:=HD.out.xs _ (List.getElem_mem hk1);have hsucc:=cT xs k hk1;subst hab;generalize xs[k]=v at q0 v0 v1 hsucc;have HSU:=Lib.hid hsucc;have hlen:=fK wr B b _ HS.out.1;by_cases hbig:1048576<(L0++ak (xs.take k)).length
   ·have hbI:(1048576:Int)<(((L0++ak (xs.take k)).length:Nat):Int):=by omega
    have HBG:=Lib.hid hbig;obtain⟨m,hm⟩:∃m,(L0++ak (xs.take k)).length=m:=⟨_,rfl⟩
    rw[hm] at hlen hbI;clear hv hsucc hbig hm hnw;go_wp2_with fail;refine hlen.mono ?_;rintro e w' ⟨rfl,rfl⟩;go_wp2_with fail;(first|go_end0|refine bodyPost_ret (results_none (by kernel_rfl) _ _ _) rfl ?_|skip)
    rw[HPO.out];exact gM rfl HS.out.2 HLE.out HS.out.1 HLn.out HBG.out
   ·have hbI:¬(1048576:Int)<(((L0++ak (xs.take k)).length:Nat):Int):=by omega
    have HBG:=Lib.hid hbig;have hito:=fun W (n:New wr W)=>gw W v v0 v1 (he.new (hnw.trans n))
    obtain⟨Sv,hSv⟩:∃S,cC v=S:=⟨_,rfl⟩
    have hSz:=fz v v0 v1;rw[hSv] at hito hSz;have hSl:Sv.data.toList=Lib.itoa v:=by rw[<-hSv];rfl
    obtain⟨Sw,hSw⟩:∃S,(⟨#[32]⟩:ByteArray)++Sv=S:=⟨_,rfl⟩
    have hSwz:Sw.size=1+Sv.size:=by rw[<-hSw,ByteArray.size_append];rfl
    have hSwl:Sw.data.toList=32::Lib.itoa v:=by rw[<-hSw,ByteArray.data_append,Array.toList_append,hSl];rfl
    have hadd:∀w:World,(Op.stringOp .add (⟨#[32]⟩:ByteArray) Sv).run Tryz.prog w= .ok (.string Sw) w:=fun w=>by rw[<-hSw];exact run_string_add_sum w _ _ (by show 1+Sv.size<=_;omega)
    have HSW:=Lib.hid (And.intro hSwz hSwl);have HSZ:=Lib.hid hSz;obtain⟨m,hm⟩:∃m,(L0++ak (xs.take k)).length=m:=⟨_,rfl⟩
    rw[hm] at hlen hbI;clear hv hsucc hbig hm hnw hSv hSl hSw hSwz hSwl hSz;go_wp2_with fail;refine hlen.mono ?_;rintro e w' ⟨rfl,rfl⟩;go_wp2_with fail;refine(hito _ (New.refl _)).mono ?_;rintro e w2 ⟨rfl,n2⟩;have hw:=bC w2 B b _ Sw (HS.out.1.new n2) (by have h1:=HLn.out;have h2:=HSW.out.1;have h3:=HSZ.out;omega) (HS.out.1.new n2).lt.2;have HK2:=Lib.hid (HS.out.2.trans (KY.of_new n2));clear n2 hito hlen;go_wp2_with fail;refine hw.mono ?_;rintro e w3 ⟨rfl,b3,k3⟩;have HS3:=Lib.hid (And.intro b3 (HK2.out.trans k3));clear hw b3 k3 q0 hbw;go_wp2_with fail;go_roundw
    case rel=>
     refine⟨k+1,by omega,by go_num,Lib.hid ⟨?_,HS3.out.2⟩,Lib.hid ?_⟩
     ·rw[HSU.out,<-List.append_assoc,<-HSW.out.2];exact HS3.out.1
     ·rw[HSU.out,<-List.append_assoc,<-HSW.out.2,List.length_append,ai];have h1:=HSW.out.1;have h3:=HSZ.out;have h4:=HBG.out;omega
    case measure=>simp[intOf];omega
  ·have hke:k=xs.length:=by omega
   have hkd:decide (k<xs.length)=false:=decide_eq_false hk1;have hk9:¬(k:Int)<(xs.length:Int):=by omega
   have HB9:Hid (Bd wr B b (L0++ak xs)∧(L0++ak xs).length<=1048700):=Lib.hid (by
    have h1:=HS.out.1;have h2:=HLn.out;rw[hke,List.take_length] at h1 h2;exact⟨h1,h2⟩)
   have hw:=bC wr B b _ (⟨#[59,10]⟩:ByteArray) HB9.out.1 (by have:=HB9.out.2;show _+2<=_;omega) HB9.out.1.lt.2;clear hke;go_wp2_with fail;refine hw.mono ?_;rintro e w3 ⟨rfl,b3,k3⟩;go_wp2_with fail;(first|go_end0|refine bodyPost_ret (results_none (by kernel_rfl) _ _ _) rfl ?_|skip)
   rw[HPO.out];exact gN rfl (HS.out.2.trans k3) HLE.out b3 HB9.out.2
set_option maxRecDepth 100000 in
set_option maxHeartbeats 8000000 in
theorem nV (w0 w:World) (B b:Nat) (l:List UInt8) (he:Env w0) (hB:w0.heap.size<=B) (n0:New w0 w) (h:Bd w B b l) (name tag:ByteArray) (sa:Option Addr) (sc:Nat) (xs:List Int) (fn:ByteArray) (fp fa:Int) (tn:ByteArray) (tp ta at_:Int) (hx:am w0 sa (Is xs)) (hr:aP ⟨2,name,tag,sa,sc,xs,fn,fp,fa,tn,tp,ta,at_⟩=true) (hd:IBnd ⟨2,name,tag,sa,sc,xs,fn,fp,fa,tn,tp,ta,at_⟩) (hxs:xs=[]) (hl:l.length<=1048576):
  Calls Tryz.prog 75 #[.pointer (some ⟨b,0,none⟩),.agg (itA ⟨2,name,tag,sa,sc,xs,fn,fp,fa,tn,tp,ta,at_⟩)] w (gq w B b l ⟨2,name,tag,sa,sc,xs,fn,fp,fa,tn,tp,ta,at_⟩):=by
 have nb:New w (w.alloc (.cells #[.int .u8 2,.string name,.string tag,.slice sa xs.length sc,.string fn,I fp,I fa,.string tn,I tp,I ta,I at_] ItT)):=(New.refl w).alloc _;have hbk:(w.alloc (.cells #[.int .u8 2,.string name,.string tag,.slice sa xs.length sc,.string fn,I fp,I fa,.string tn,I tp,I ta,I at_] ItT)).heap[w.heap.size]? =some (.cells #[.int .u8 2,.string name,.string tag,.slice sa xs.length sc,.string fn,I fp,I fa,.string tn,I tp,I ta,I at_] ItT (0,0)):=heap_alloc_new w _;obtain⟨⟨c0,c1,c2,c3,c4,c5,c6,c7,c8,c9,c10⟩,-,hX⟩:=aN hbk;have HBK:=Lib.hid hbk;have HW1:=Lib.hid (And.intro (h.new nb) (KY.of_new (p:=bdO) (B:=B) nb));have HL1:Hid (l.length<=1048576):=Lib.hid hl;have HN:=Lib.hid n0;have HX:=Lib.hid hx;have HD:=Lib.hid hd;obtain⟨fp0,fp1⟩:=hd.p0;obtain⟨tp0,tp1⟩:=hd.p1;have hln:=hd.ln;simp only at fp0 fp1 tp0 tp1 hln;obtain⟨PO,hPO⟩:∃PO:Ending->World->Prop,PO=gq w B b l ⟨2,name,tag,sa,sc,xs,fn,fp,fa,tn,tp,ta,at_⟩:=⟨_,rfl⟩
 rw[<-hPO];have HPO:=Lib.hid hPO;replace hr:(bL name&&bL tag&&aM fn&&aM tn)=true:=hr;simp only[Bool.and_eq_true] at hr;have hhd:bP ⟨2,name,tag,sa,sc,xs,fn,fp,fa,tn,tp,ta,at_⟩=[32,32,101,100,103,101,32]++aD fn fp++[32,45,62,32]++aD tn tp++(if xs=[] then[] else[32,119,105,116,104]):=rfl;clear h hbk nb hl hx hd n0 hPO;obtain⟨⟨⟨-,-⟩,hf⟩,ho⟩:=hr;have f16:=bh hf;have t16:=bh ho;rw[if_pos hxs] at hhd;have hxl:¬(0:Int)<(xs.length:Int):=by rw[hxs];simp
 have hxd:decide (0<xs.length)=false:=by rw[hxs];rfl
 clear hf ho hxs;go_enter Tryz.func75,Tryz.ntmps75;have hw:=bC _ B b (l) (⟨#[32,32,101,100,103,101,32]⟩:ByteArray) HW1.out.1 (by have h1:=HL1.out;have h2:((⟨#[32,32,101,100,103,101,32]⟩:ByteArray)).size<=7:=(by decide);omega) HW1.out.1.lt.2;go_wp2_with fail;refine hw.mono ?_;rintro e w1 ⟨rfl,b1,k1⟩;have hsz1:(((⟨#[32,32,101,100,103,101,32]⟩:ByteArray)).data.toList).length<=7:=by rw[ai];exact(by decide)
 have hbk:=k1.heap HBK.out rfl;obtain⟨⟨d0,d1,d2,d3,d4,d5,d6,d7,d8,d9,d10⟩,-,hX1⟩:=aN hbk;have HBKn:=Lib.hid hbk;clear HBK;have HBK:=HBKn;clear HBKn;have HW2:=Lib.hid (And.intro b1 (HW1.out.2.trans k1));have HL2:Hid ((l++((⟨#[32,32,101,100,103,101,32]⟩:ByteArray)).data.toList).length<=1048583):=Lib.hid (by have h1:(l).length<=1048576:=HL1.out;rw[List.length_append];omega);clear hbk b1 k1 hw c0 c1 c2 c3 c4 c5 c6 c7 c8 c9 c10 hX HW1 HL1;have c0:=d0;have c1:=d1;have c2:=d2;have c3:=d3;have c4:=d4;have c5:=d5;have c6:=d6;have c7:=d7;have c8:=d8;have c9:=d9;have c10:=d10;have hX:=hX1;clear d0 d1 d2 d3 d4 d5 d6 d7 d8 d9 d10 hX1;have hw:=fD w0 _ B b (l++((⟨#[32,32,101,100,103,101,32]⟩:ByteArray)).data.toList) he hB (KZ.nw HW2.out.2 hB HN.out) HW2.out.1 fn fp fa fp0 fp1 (by omega) (by have h1:=HL2.out;omega);go_wp2_with fail;refine hw.mono ?_;rintro e w2 ⟨rfl,b2,k2⟩;have hsz2:=cn fn fp f16 fp0 fp1;have hbk:=k2.heap HBK.out rfl;obtain⟨⟨d0,d1,d2,d3,d4,d5,d6,d7,d8,d9,d10⟩,-,hX2⟩:=aN hbk;have HBKn:=Lib.hid hbk;clear HBK;have HBK:=HBKn;clear HBKn;have HW3:=Lib.hid (And.intro b2 (HW2.out.2.trans k2));have HL3:Hid ((l++((⟨#[32,32,101,100,103,101,32]⟩:ByteArray)).data.toList++aD fn fp).length<=1048621):=Lib.hid (by have h1:(l++((⟨#[32,32,101,100,103,101,32]⟩:ByteArray)).data.toList).length<=1048583:=HL2.out;rw[List.length_append];omega);clear hbk b2 k2 hw c0 c1 c2 c3 c4 c5 c6 c7 c8 c9 c10 hX HW2 HL2;have c0:=d0;have c1:=d1;have c2:=d2;have c3:=d3;have c4:=d4;have c5:=d5;have c6:=d6;have c7:=d7;have c8:=d8;have c9:=d9;have c10:=d10;have hX:=hX2;clear d0 d1 d2 d3 d4 d5 d6 d7 d8 d9 d10 hX2;have hw:=bC _ B b (l++((⟨#[32,32,101,100,103,101,32]⟩:ByteArray)).data.toList++aD fn fp) (⟨#[32,45,62,32]⟩:ByteArray) HW3.out.1 (by have h1:=HL3.out;have h2:((⟨#[32,45,62,32]⟩:ByteArray)).size<=4:=(by decide);omega) HW3.out.1.lt.2;go_wp2_with fail;refine hw.mono ?_;rintro e w3 ⟨rfl,b3,k3⟩;have hsz3:(((⟨#[32,45,62,32]⟩:ByteArray)).data.toList).length<=4:=by rw[ai];exact(by decide)
 have hbk:=k3.heap HBK.out rfl;obtain⟨⟨d0,d1,d2,d3,d4,d5,d6,d7,d8,d9,d10⟩,-,hX3⟩:=aN hbk;have HBKn:=Lib.hid hbk;clear HBK;have HBK:=HBKn;clear HBKn;have HW4:=Lib.hid (And.intro b3 (HW3.out.2.trans k3));have HL4:Hid ((l++((⟨#[32,32,101,100,103,101,32]⟩:ByteArray)).data.toList++aD fn fp++((⟨#[32,45,62,32]⟩:ByteArray)).data.toList).length<=1048625):=Lib.hid (by have h1:(l++((⟨#[32,32,101,100,103,101,32]⟩:ByteArray)).data.toList++aD fn fp).length<=1048621:=HL3.out;rw[List.length_append];omega);clear hbk b3 k3 hw c0 c1 c2 c3 c4 c5 c6 c7 c8 c9 c10 hX HW3 HL3;have c0:=d0;have c1:=d1;have c2:=d2;have c3:=d3;have c4:=d4;have c5:=d5;have c6:=d6;have c7:=d7;have c8:=d8;have c9:=d9;have c10:=d10;have hX:=hX3;clear d0 d1 d2 d3 d4 d5 d6 d7 d8 d9 d10 hX3;have hw:=fD w0 _ B b (l++((⟨#[32,32,101,100,103,101,32]⟩:ByteArray)).data.toList++aD fn fp++((⟨#[32,45,62,32]⟩:ByteArray)).data.toList) he hB (KZ.nw HW4.out.2 hB HN.out) HW4.out.1 tn tp ta tp0 tp1 (by omega) (by have h1:=HL4.out;omega);go_wp2_with fail;refine hw.mono ?_;rintro e w4 ⟨rfl,b4,k4⟩;have hsz4:=cn tn tp t16 tp0 tp1;have hbk:=k4.heap HBK.out rfl;obtain⟨⟨d0,d1,d2,d3,d4,d5,d6,d7,d8,d9,d10⟩,-,hX4⟩:=aN hbk;have HBKn:=Lib.hid hbk;clear HBK;have HBK:=HBKn;clear HBKn;have HW5:=Lib.hid (And.intro b4 (HW4.out.2.trans k4));have HL5:Hid ((l++((⟨#[32,32,101,100,103,101,32]⟩:ByteArray)).data.toList++aD fn fp++((⟨#[32,45,62,32]⟩:ByteArray)).data.toList++aD tn tp).length<=1048663):=Lib.hid (by have h1:(l++((⟨#[32,32,101,100,103,101,32]⟩:ByteArray)).data.toList++aD fn fp++((⟨#[32,45,62,32]⟩:ByteArray)).data.toList).length<=1048625:=HL4.out;rw[List.length_append];omega);clear hbk b4 k4 hw c0 c1 c2 c3 c4 c5 c6 c7 c8 c9 c10 hX HW4 HL4;have c0:=d0;have c1:=d1;have c2:=d2;have c3:=d3;have c4:=d4;have c5:=d5;have c6:=d6;have c7:=d7;have c8:=d8;have c9:=d9;have c10:=d10;have hX:=hX4;clear d0 d1 d2 d3 d4 d5 d6 d7 d8 d9 d10 hX4;obtain⟨L0,hL0⟩:∃L,L=l++((⟨#[32,32,101,100,103,101,32]⟩:ByteArray)).data.toList++aD fn fp++((⟨#[32,45,62,32]⟩:ByteArray)).data.toList++aD tn tp:=⟨_,rfl⟩
 have hLe:L0=l++bP ⟨2,name,tag,sa,sc,xs,fn,fp,fa,tn,tp,ta,at_⟩:=by rw[hL0,hhd];(try simp)
 rw[<-hL0] at HW5 HL5;have HLE:=Lib.hid hLe;have hs0:Bd w4 B b (L0++ak (xs.take 0)):=by simpa[ak] using HW5.out.1
 have HS0:=Lib.hid (And.intro hs0 HW5.out.2);have HS1:Hid ((L0++ak (xs.take 0)).length<=1048700):=Lib.hid (by have h1:=HL5.out;simp[ak];omega);have HWN:=Lib.hid (KZ.nw HW5.out.2 hB HN.out);clear hL0 hLe hs0 hhd;go_wp2_with fail;clear hxl hxd;go_loopw [67] (fun i wr=>∃k:Nat,k<=xs.length∧i= .int .i64 k∧Hid (Bd wr B b (L0++ak (xs.take k))∧KZ B w wr)∧Hid ((L0++ak (xs.take k)).length<=1048700)) (fun i _=>xs.length-(intOf i).toNat)
 case atStart=>exact⟨0,by omega,rfl,HS0,HS1⟩
 case round=>
  clear HS0 HS1;obtain⟨k,hk,rfl,HS,HLn⟩:=hrel;by_cases hk1:k<xs.length
  ·have hkI:(k:Int)<(xs.length:Int):=by omega
   have hkd:decide (k<xs.length)=true:=decide_eq_true hk1;have hnw:=KZ.nw HS.out.2 hB HN.out;obtain⟨bb,off,hab,q0⟩:=(HX.out.new hnw) k (by simpa[Is] using hk1);have hv:(Is xs).getD k undef=I xs[k]:=by simp[Is,hk1]
   rw[hv] at q0;have hbw:=World.block_lt_of_cell? wr _ q0;obtain⟨v0,v1⟩:=HD.out.xs _ (List.getElem_mem hk1);have hsucc:=cT xs k hk1;subst hab;generalize xs[k]=v at q0 v0 v1 hsucc;have HSU:=Lib.hid hsucc;have hlen:=fK wr B b _ HS.out.1;by_cases hbig:1048576<(L0++ak (xs.take k)).length
   ·have hbI:(1048576:Int)<(((L0++ak (xs.take k)).length:Nat):Int):=by omega
    have HBG:=Lib.hid hbig;obtain⟨m,hm⟩:∃m,(L0++ak (xs.take k)).length=m:=⟨_,rfl⟩
    rw[hm] at hlen hbI;clear hv hsucc hbig hm hnw;go_wp2_with fail;refine hlen.mono ?_;rintro e w' ⟨rfl,rfl⟩;go_wp2_with fail;(first|go_end0|refine bodyPost_ret (results_none (by kernel_rfl) _ _ _) rfl ?_|skip)
    rw[HPO.out];exact gM rfl HS.out.2 HLE.out HS.out.1 HLn.out HBG.out
   ·have hbI:¬(1048576:Int)<(((L0++ak (xs.take k)).length:Nat):Int):=by omega
    have HBG:=Lib.hid hbig;have hito:=fun W (n:New wr W)=>gw W v v0 v1 (he.new (hnw.trans n))
    obtain⟨Sv,hSv⟩:∃S,cC v=S:=⟨_,rfl⟩
    have hSz:=fz v v0 v1;rw[hSv] at hito hSz;have hSl:Sv.data.toList=Lib.itoa v:=by rw[<-hSv];rfl
    obtain⟨Sw,hSw⟩:∃S,(⟨#[32]⟩:ByteArray)++Sv=S:=⟨_,rfl⟩
    have hSwz:Sw.size=1+Sv.size:=by rw[<-hSw,ByteArray.size_append];rfl
    have hSwl:Sw.data.toList=32::Lib.itoa v:=by rw[<-hSw,ByteArray.data_append,Array.toList_append,hSl];rfl
    have hadd:∀w:World,(Op.stringOp .add (⟨#[32]⟩:ByteArray) Sv).run Tryz.prog w= .ok (.string Sw) w:=fun w=>by rw[<-hSw];exact run_string_add_sum w _ _ (by show 1+Sv.size<=_;omega)
    have HSW:=Lib.hid (And.intro hSwz hSwl);have HSZ:=Lib.hid hSz;obtain⟨m,hm⟩:∃m,(L0++ak (xs.take k)).length=m:=⟨_,rfl⟩
    rw[hm] at hlen hbI;clear hv hsucc hbig hm hnw hSv hSl hSw hSwz hSwl hSz;go_wp2_with fail;refine hlen.mono ?_;rintro e w' ⟨rfl,rfl⟩;go_wp2_with fail;refine(hito _ (New.refl _)).mono ?_;rintro e w2 ⟨rfl,n2⟩;have hw:=bC w2 B b _ Sw (HS.out.1.new n2) (by have h1:=HLn.out;have h2:=HSW.out.1;have h3:=HSZ.out;omega) (HS.out.1.new n2).lt.2;have HK2:=Lib.hid (HS.out.2.trans (KY.of_new n2));clear n2 hito hlen;go_wp2_with fail;refine hw.mono ?_;rintro e w3 ⟨rfl,b3,k3⟩;have HS3:=Lib.hid (And.intro b3 (HK2.out.trans k3));clear hw b3 k3 q0 hbw;go_wp2_with fail;go_roundw
    case rel=>
     refine⟨k+1,by omega,by go_num,Lib.hid ⟨?_,HS3.out.2⟩,Lib.hid ?_⟩
     ·rw[HSU.out,<-List.append_assoc,<-HSW.out.2];exact HS3.out.1
     ·rw[HSU.out,<-List.append_assoc,<-HSW.out.2,List.length_append,ai];have h1:=HSW.out.1;have h3:=HSZ.out;have h4:=HBG.out;omega
    case measure=>simp[intOf];omega
  ·have hke:k=xs.length:=by omega
   have hkd:decide (k<xs.length)=false:=decide_eq_false hk1;have hk9:¬(k:Int)<(xs.length:Int):=by omega
   have HB9:Hid (Bd wr B b (L0++ak xs)∧(L0++ak xs).length<=1048700):=Lib.hid (by
    have h1:=HS.out.1;have h2:=HLn.out;rw[hke,List.take_length] at h1 h2;exact⟨h1,h2⟩)
   have hw:=bC wr B b _ (⟨#[59,10]⟩:ByteArray) HB9.out.1 (by have:=HB9.out.2;show _+2<=_;omega) HB9.out.1.lt.2;clear hke;go_wp2_with fail;refine hw.mono ?_;rintro e w3 ⟨rfl,b3,k3⟩;go_wp2_with fail;(first|go_end0|refine bodyPost_ret (results_none (by kernel_rfl) _ _ _) rfl ?_|skip)
   rw[HPO.out];exact gN rfl (HS.out.2.trans k3) HLE.out b3 HB9.out.2
set_option maxRecDepth 100000 in
set_option maxHeartbeats 8000000 in
theorem nW (w0 w:World) (B b:Nat) (l:List UInt8) (he:Env w0) (hB:w0.heap.size<=B) (n0:New w0 w) (h:Bd w B b l) (name tag:ByteArray) (sa:Option Addr) (sc:Nat) (xs:List Int) (fn:ByteArray) (fp fa:Int) (tn:ByteArray) (tp ta at_:Int) (hx:am w0 sa (Is xs)) (hr:aP ⟨2,name,tag,sa,sc,xs,fn,fp,fa,tn,tp,ta,at_⟩=true) (hd:IBnd ⟨2,name,tag,sa,sc,xs,fn,fp,fa,tn,tp,ta,at_⟩) (hxs:xs≠[]) (hl:l.length<=1048576):
  Calls Tryz.prog 75 #[.pointer (some ⟨b,0,none⟩),.agg (itA ⟨2,name,tag,sa,sc,xs,fn,fp,fa,tn,tp,ta,at_⟩)] w (gq w B b l ⟨2,name,tag,sa,sc,xs,fn,fp,fa,tn,tp,ta,at_⟩):=by
 have nb:New w (w.alloc (.cells #[.int .u8 2,.string name,.string tag,.slice sa xs.length sc,.string fn,I fp,I fa,.string tn,I tp,I ta,I at_] ItT)):=(New.refl w).alloc _;have hbk:(w.alloc (.cells #[.int .u8 2,.string name,.string tag,.slice sa xs.length sc,.string fn,I fp,I fa,.string tn,I tp,I ta,I at_] ItT)).heap[w.heap.size]? =some (.cells #[.int .u8 2,.string name,.string tag,.slice sa xs.length sc,.string fn,I fp,I fa,.string tn,I tp,I ta,I at_] ItT (0,0)):=heap_alloc_new w _;obtain⟨⟨c0,c1,c2,c3,c4,c5,c6,c7,c8,c9,c10⟩,-,hX⟩:=aN hbk;have HBK:=Lib.hid hbk;have HW1:=Lib.hid (And.intro (h.new nb) (KY.of_new (p:=bdO) (B:=B) nb));have HL1:Hid (l.length<=1048576):=Lib.hid hl;have HN:=Lib.hid n0;have HX:=Lib.hid hx;have HD:=Lib.hid hd;obtain⟨fp0,fp1⟩:=hd.p0;obtain⟨tp0,tp1⟩:=hd.p1;have hln:=hd.ln;simp only at fp0 fp1 tp0 tp1 hln;obtain⟨PO,hPO⟩:∃PO:Ending->World->Prop,PO=gq w B b l ⟨2,name,tag,sa,sc,xs,fn,fp,fa,tn,tp,ta,at_⟩:=⟨_,rfl⟩
 rw[<-hPO];have HPO:=Lib.hid hPO;replace hr:(bL name&&bL tag&&aM fn&&aM tn)=true:=hr;simp only[Bool.and_eq_true] at hr;have hhd:bP ⟨2,name,tag,sa,sc,xs,fn,fp,fa,tn,tp,ta,at_⟩=[32,32,101,100,103,101,32]++aD fn fp++[32,45,62,32]++aD tn tp++(if xs=[] then[] else[32,119,105,116,104]):=rfl;clear h hbk nb hl hx hd n0 hPO;obtain⟨⟨⟨-,-⟩,hf⟩,ho⟩:=hr;have f16:=bh hf;have t16:=bh ho;rw[if_neg hxs] at hhd;have hxl:(0:Int)<(xs.length:Int):=by have:=List.length_pos_iff.2 hxs;omega
 have hxd:decide (0<xs.length)=true:=by exact decide_eq_true (List.length_pos_iff.2 hxs)
 clear hf ho hxs;go_enter Tryz.func75,Tryz.ntmps75;have hw:=bC _ B b (l) (⟨#[32,32,101,100,103,101,32]⟩:ByteArray) HW1.out.1 (by have h1:=HL1.out;have h2:((⟨#[32,32,101,100,103,101,32]⟩:ByteArray)).size<=7:=(by decide);omega) HW1.out.1.lt.2;go_wp2_with fail;refine hw.mono ?_;rintro e w1 ⟨rfl,b1,k1⟩;have hsz1:(((⟨#[32,32,101,100,103,101,32]⟩:ByteArray)).data.toList).length<=7:=by rw[ai];exact(by decide)
 have hbk:=k1.heap HBK.out rfl;obtain⟨⟨d0,d1,d2,d3,d4,d5,d6,d7,d8,d9,d10⟩,-,hX1⟩:=aN hbk;have HBKn:=Lib.hid hbk;clear HBK;have HBK:=HBKn;clear HBKn;have HW2:=Lib.hid (And.intro b1 (HW1.out.2.trans k1));have HL2:Hid ((l++((⟨#[32,32,101,100,103,101,32]⟩:ByteArray)).data.toList).length<=1048583):=Lib.hid (by have h1:(l).length<=1048576:=HL1.out;rw[List.length_append];omega);clear hbk b1 k1 hw c0 c1 c2 c3 c4 c5 c6 c7 c8 c9 c10 hX HW1 HL1;have c0:=d0;have c1:=d1;have c2:=d2;have c3:=d3;have c4:=d4;have c5:=d5;have c6:=d6;have c7:=d7;have c8:=d8;have c9:=d9;have c10:=d10;have hX:=hX1;clear d0 d1 d2 d3 d4 d5 d6 d7 d8 d9 d10 hX1;have hw:=fD w0 _ B b (l++((⟨#[32,32,101,100,103,101,32]⟩:ByteArray)).data.toList) he hB (KZ.nw HW2.out.2 hB HN.out) HW2.out.1 fn fp fa fp0 fp1 (by omega) (by have h1:=HL2.out;omega);go_wp2_with fail;refine hw.mono ?_;rintro e w2 ⟨rfl,b2,k2⟩;have hsz2:=cn fn fp f16 fp0 fp1;have hbk:=k2.heap HBK.out rfl;obtain⟨⟨d0,d1,d2,d3,d4,d5,d6,d7,d8,d9,d10⟩,-,hX2⟩:=aN hbk;have HBKn:=Lib.hid hbk;clear HBK;have HBK:=HBKn;clear HBKn;have HW3:=Lib.hid (And.intro b2 (HW2.out.2.trans k2));have HL3:Hid ((l++((⟨#[32,32,101,100,103,101,32]⟩:ByteArray)).data.toList++aD fn fp).length<=1048621):=Lib.hid (by have h1:(l++((⟨#[32,32,101,100,103,101,32]⟩:ByteArray)).data.toList).length<=1048583:=HL2.out;rw[List.length_append];omega);clear hbk b2 k2 hw c0 c1 c2 c3 c4 c5 c6 c7 c8 c9 c10 hX HW2 HL2;have c0:=d0;have c1:=d1;have c2:=d2;have c3:=d3;have c4:=d4;have c5:=d5;have c6:=d6;have c7:=d7;have c8:=d8;have c9:=d9;have c10:=d10;have hX:=hX2;clear d0 d1 d2 d3 d4 d5 d6 d7 d8 d9 d10 hX2;have hw:=bC _ B b (l++((⟨#[32,32,101,100,103,101,32]⟩:ByteArray)).data.toList++aD fn fp) (⟨#[32,45,62,32]⟩:ByteArray) HW3.out.1 (by have h1:=HL3.out;have h2:((⟨#[32,45,62,32]⟩:ByteArray)).size<=4:=(by decide);omega) HW3.out.1.lt.2;go_wp2_with fail;refine hw.mono ?_;rintro e w3 ⟨rfl,b3,k3⟩;have hsz3:(((⟨#[32,45,62,32]⟩:ByteArray)).data.toList).length<=4:=by rw[ai];exact(by decide)
 have hbk:=k3.heap HBK.out rfl;obtain⟨⟨d0,d1,d2,d3,d4,d5,d6,d7,d8,d9,d10⟩,-,hX3⟩:=aN hbk;have HBKn:=Lib.hid hbk;clear HBK;have HBK:=HBKn;clear HBKn;have HW4:=Lib.hid (And.intro b3 (HW3.out.2.trans k3));have HL4:Hid ((l++((⟨#[32,32,101,100,103,101,32]⟩:ByteArray)).data.toList++aD fn fp++((⟨#[32,45,62,32]⟩:ByteArray)).data.toList).length<=1048625):=Lib.hid (by have h1:(l++((⟨#[32,32,101,100,103,101,32]⟩:ByteArray)).data.toList++aD fn fp).length<=1048621:=HL3.out;rw[List.length_append];omega);clear hbk b3 k3 hw c0 c1 c2 c3 c4 c5 c6 c7 c8 c9 c10 hX HW3 HL3;have c0:=d0;have c1:=d1;have c2:=d2;have c3:=d3;have c4:=d4;have c5:=d5;have c6:=d6;have c7:=d7;have c8:=d8;have c9:=d9;have c10:=d10;have hX:=hX3;clear d0 d1 d2 d3 d4 d5 d6 d7 d8 d9 d10 hX3;have hw:=fD w0 _ B b (l++((⟨#[32,32,101,100,103,101,32]⟩:ByteArray)).data.toList++aD fn fp++((⟨#[32,45,62,32]⟩:ByteArray)).data.toList) he hB (KZ.nw HW4.out.2 hB HN.out) HW4.out.1 tn tp ta tp0 tp1 (by omega) (by have h1:=HL4.out;omega);go_wp2_with fail;refine hw.mono ?_;rintro e w4 ⟨rfl,b4,k4⟩;have hsz4:=cn tn tp t16 tp0 tp1;have hbk:=k4.heap HBK.out rfl;obtain⟨⟨d0,d1,d2,d3,d4,d5,d6,d7,d8,d9,d10⟩,-,hX4⟩:=aN hbk;have HBKn:=Lib.hid hbk;clear HBK;have HBK:=HBKn;clear HBKn;have HW5:=Lib.hid (And.intro b4 (HW4.out.2.trans k4));have HL5:Hid ((l++((⟨#[32,32,101,100,103,101,32]⟩:ByteArray)).data.toList++aD fn fp++((⟨#[32,45,62,32]⟩:ByteArray)).data.toList++aD tn tp).length<=1048663):=Lib.hid (by have h1:(l++((⟨#[32,32,101,100,103,101,32]⟩:ByteArray)).data.toList++aD fn fp++((⟨#[32,45,62,32]⟩:ByteArray)).data.toList).length<=1048625:=HL4.out;rw[List.length_append];omega);clear hbk b4 k4 hw c0 c1 c2 c3 c4 c5 c6 c7 c8 c9 c10 hX HW4 HL4;have c0:=d0;have c1:=d1;have c2:=d2;have c3:=d3;have c4:=d4;have c5:=d5;have c6:=d6;have c7:=d7;have c8:=d8;have c9:=d9;have c10:=d10;have hX:=hX4;clear d0 d1 d2 d3 d4 d5 d6 d7 d8 d9 d10 hX4;have hw:=bC _ B b (l++((⟨#[32,32,101,100,103,101,32]⟩:ByteArray)).data.toList++aD fn fp++((⟨#[32,45,62,32]⟩:ByteArray)).data.toList++aD tn tp) (⟨#[32,119,105,116,104]⟩:ByteArray) HW5.out.1 (by have h1:=HL5.out;have h2:((⟨#[32,119,105,116,104]⟩:ByteArray)).size<=5:=(by decide);omega) HW5.out.1.lt.2;go_wp2_with fail;refine hw.mono ?_;rintro e w5 ⟨rfl,b5,k5⟩;have hsz5:(((⟨#[32,119,105,116,104]⟩:ByteArray)).data.toList).length<=5:=by rw[ai];exact(by decide)
 have hbk:=k5.heap HBK.out rfl;obtain⟨⟨d0,d1,d2,d3,d4,d5,d6,d7,d8,d9,d10⟩,-,hX5⟩:=aN hbk;have HBKn:=Lib.hid hbk;clear HBK;have HBK:=HBKn;clear HBKn;have HW6:=Lib.hid (And.intro b5 (HW5.out.2.trans k5));have HL6:Hid ((l++((⟨#[32,32,101,100,103,101,32]⟩:ByteArray)).data.toList++aD fn fp++((⟨#[32,45,62,32]⟩:ByteArray)).data.toList++aD tn tp++((⟨#[32,119,105,116,104]⟩:ByteArray)).data.toList).length<=1048668):=Lib.hid (by have h1:(l++((⟨#[32,32,101,100,103,101,32]⟩:ByteArray)).data.toList++aD fn fp++((⟨#[32,45,62,32]⟩:ByteArray)).data.toList++aD tn tp).length<=1048663:=HL5.out;rw[List.length_append];omega);clear hbk b5 k5 hw c0 c1 c2 c3 c4 c5 c6 c7 c8 c9 c10 hX HW5 HL5;have c0:=d0;have c1:=d1;have c2:=d2;have c3:=d3;have c4:=d4;have c5:=d5;have c6:=d6;have c7:=d7;have c8:=d8;have c9:=d9;have c10:=d10;have hX:=hX5;clear d0 d1 d2 d3 d4 d5 d6 d7 d8 d9 d10 hX5;obtain⟨L0,hL0⟩:∃L,L=l++((⟨#[32,32,101,100,103,101,32]⟩:ByteArray)).data.toList++aD fn fp++((⟨#[32,45,62,32]⟩:ByteArray)).data.toList++aD tn tp++((⟨#[32,119,105,116,104]⟩:ByteArray)).data.toList:=⟨_,rfl⟩
 have hLe:L0=l++bP ⟨2,name,tag,sa,sc,xs,fn,fp,fa,tn,tp,ta,at_⟩:=by rw[hL0,hhd];(try simp)
 rw[<-hL0] at HW6 HL6;have HLE:=Lib.hid hLe;have hs0:Bd w5 B b (L0++ak (xs.take 0)):=by simpa[ak] using HW6.out.1
 have HS0:=Lib.hid (And.intro hs0 HW6.out.2);have HS1:Hid ((L0++ak (xs.take 0)).length<=1048700):=Lib.hid (by have h1:=HL6.out;simp[ak];omega);have HWN:=Lib.hid (KZ.nw HW6.out.2 hB HN.out);clear hL0 hLe hs0 hhd;go_wp2_with fail;clear hxl hxd;go_loopw [67] (fun i wr=>∃k:Nat,k<=xs.length∧i= .int .i64 k∧Hid (Bd wr B b (L0++ak (xs.take k))∧KZ B w wr)∧Hid ((L0++ak (xs.take k)).length<=1048700)) (fun i _=>xs.length-(intOf i).toNat)
 case atStart=>exact⟨0,by omega,rfl,HS0,HS1⟩
 case round=>
  clear HS0 HS1;obtain⟨k,hk,rfl,HS,HLn⟩:=hrel;by_cases hk1:k<xs.length
  ·have hkI:(k:Int)<(xs.length:Int):=by omega
   have hkd:decide (k<xs.length)=true:=decide_eq_true hk1;have hnw:=KZ.nw HS.out.2 hB HN.out;obtain⟨bb,off,hab,q0⟩:=(HX.out.new hnw) k (by simpa[Is] using hk1);have hv:(Is xs).getD k undef=I xs[k]:=by simp[Is,hk1]
   rw[hv] at q0;have hbw:=World.block_lt_of_cell? wr _ q0;obtain⟨v0,v1⟩:=HD.out.xs _ (List.getElem_mem hk1);have hsucc:=cT xs k hk1;subst hab;generalize xs[k]=v at q0 v0 v1 hsucc;have HSU:=Lib.hid hsucc;have hlen:=fK wr B b _ HS.out.1;by_cases hbig:1048576<(L0++ak (xs.take k)).length
   ·have hbI:(1048576:Int)<(((L0++ak (xs.take k)).length:Nat):Int):=by omega
    have HBG:=Lib.hid hbig;obtain⟨m,hm⟩:∃m,(L0++ak (xs.take k)).length=m:=⟨_,rfl⟩
    rw[hm] at hlen hbI;clear hv hsucc hbig hm hnw;go_wp2_with fail;refine hlen.mono ?_;rintro e w' ⟨rfl,rfl⟩;go_wp2_with fail;(first|go_end0|refine bodyPost_ret (results_none (by kernel_rfl) _ _ _) rfl ?_|skip)
    rw[HPO.out];exact gM rfl HS.out.2 HLE.out HS.out.1 HLn.out HBG.out
   ·have hbI:¬(1048576:Int)<(((L0++ak (xs.take k)).length:Nat):Int):=by omega
    have HBG:=Lib.hid hbig;have hito:=fun W (n:New wr W)=>gw W v v0 v1 (he.new (hnw.trans n))
    obtain⟨Sv,hSv⟩:∃S,cC v=S:=⟨_,rfl⟩
    have hSz:=fz v v0 v1;rw[hSv] at hito hSz;have hSl:Sv.data.toList=Lib.itoa v:=by rw[<-hSv];rfl
    obtain⟨Sw,hSw⟩:∃S,(⟨#[32]⟩:ByteArray)++Sv=S:=⟨_,rfl⟩
    have hSwz:Sw.size=1+Sv.size:=by rw[<-hSw,ByteArray.size_append];rfl
    have hSwl:Sw.data.toList=32::Lib.itoa v:=by rw[<-hSw,ByteArray.data_append,Array.toList_append,hSl];rfl
    have hadd:∀w:World,(Op.stringOp .add (⟨#[32]⟩:ByteArray) Sv).run Tryz.prog w= .ok (.string Sw) w:=fun w=>by rw[<-hSw];exact run_string_add_sum w _ _ (by show 1+Sv.size<=_;omega)
    have HSW:=Lib.hid (And.intro hSwz hSwl);have HSZ:=Lib.hid hSz;obtain⟨m,hm⟩:∃m,(L0++ak (xs.take k)).length=m:=⟨_,rfl⟩
    rw[hm] at hlen hbI;clear hv hsucc hbig hm hnw hSv hSl hSw hSwz hSwl hSz;go_wp2_with fail;refine hlen.mono ?_;rintro e w' ⟨rfl,rfl⟩;go_wp2_with fail;refine(hito _ (New.refl _)).mono ?_;rintro e w2 ⟨rfl,n2⟩;have hw:=bC w2 B b _ Sw (HS.out.1.new n2) (by have h1:=HLn.out;have h2:=HSW.out.1;have h3:=HSZ.out;omega) (HS.out.1.new n2).lt.2;have HK2:=Lib.hid (HS.out.2.trans (KY.of_new n2));clear n2 hito hlen;go_wp2_with fail;refine hw.mono ?_;rintro e w3 ⟨rfl,b3,k3⟩;have HS3:=Lib.hid (And.intro b3 (HK2.out.trans k3));clear hw b3 k3 q0 hbw;go_wp2_with fail;go_roundw
    case rel=>
     refine⟨k+1,by omega,by go_num,Lib.hid ⟨?_,HS3.out.2⟩,Lib.hid ?_⟩
     ·rw[HSU.out,<-List.append_assoc,<-HSW.out.2];exact HS3.out.1
     ·rw[HSU.out,<-List.append_assoc,<-HSW.out.2,List.length_append,ai];have h1:=HSW.out.1;have h3:=HSZ.out;have h4:=HBG.out;omega
    case measure=>simp[intOf];omega
  ·have hke:k=xs.length:=by omega
   have hkd:decide (k<xs.length)=false:=decide_eq_false hk1;have hk9:¬(k:Int)<(xs.length:Int):=by omega
   have HB9:Hid (Bd wr B b (L0++ak xs)∧(L0++ak xs).length<=1048700):=Lib.hid (by
    have h1:=HS.out.1;have h2:=HLn.out;rw[hke,List.take_length] at h1 h2;exact⟨h1,h2⟩)
   have hw:=bC wr B b _ (⟨#[59,10]⟩:ByteArray) HB9.out.1 (by have:=HB9.out.2;show _+2<=_;omega) HB9.out.1.lt.2;clear hke;go_wp2_with fail;refine hw.mono ?_;rintro e w3 ⟨rfl,b3,k3⟩;go_wp2_with fail;(first|go_end0|refine bodyPost_ret (results_none (by kernel_rfl) _ _ _) rfl ?_|skip)
   rw[HPO.out];exact gN rfl (HS.out.2.trans k3) HLE.out b3 HB9.out.2
set_option maxRecDepth 100000 in
set_option maxHeartbeats 8000000 in
theorem ud (w0 w:World) (B b:Nat) (l:List UInt8) (he:Env w0) (hB:w0.heap.size<=B) (n0:New w0 w) (h:Bd w B b l) (name tag:ByteArray) (sa:Option Addr) (sc:Nat) (xs:List Int) (fn:ByteArray) (fp fa:Int) (tn:ByteArray) (tp ta at_:Int) (hx:am w0 sa (Is xs)) (hr:aP ⟨3,name,tag,sa,sc,xs,fn,fp,fa,tn,tp,ta,at_⟩=true) (hd:IBnd ⟨3,name,tag,sa,sc,xs,fn,fp,fa,tn,tp,ta,at_⟩) (hl:l.length<=1048576):
  Calls Tryz.prog 75 #[.pointer (some ⟨b,0,none⟩),.agg (itA ⟨3,name,tag,sa,sc,xs,fn,fp,fa,tn,tp,ta,at_⟩)] w (gq w B b l ⟨3,name,tag,sa,sc,xs,fn,fp,fa,tn,tp,ta,at_⟩):=by
 have nb:New w (w.alloc (.cells #[.int .u8 3,.string name,.string tag,.slice sa xs.length sc,.string fn,I fp,I fa,.string tn,I tp,I ta,I at_] ItT)):=(New.refl w).alloc _;have hbk:(w.alloc (.cells #[.int .u8 3,.string name,.string tag,.slice sa xs.length sc,.string fn,I fp,I fa,.string tn,I tp,I ta,I at_] ItT)).heap[w.heap.size]? =some (.cells #[.int .u8 3,.string name,.string tag,.slice sa xs.length sc,.string fn,I fp,I fa,.string tn,I tp,I ta,I at_] ItT (0,0)):=heap_alloc_new w _;obtain⟨⟨c0,c1,c2,c3,c4,c5,c6,c7,c8,c9,c10⟩,-,hX⟩:=aN hbk;have HBK:=Lib.hid hbk;have HW1:=Lib.hid (And.intro (h.new nb) (KY.of_new (p:=bdO) (B:=B) nb));have HL1:Hid (l.length<=1048576):=Lib.hid hl;have HN:=Lib.hid n0;have HX:=Lib.hid hx;have HD:=Lib.hid hd;obtain⟨fp0,fp1⟩:=hd.p0;obtain⟨tp0,tp1⟩:=hd.p1;have hln:=hd.ln;simp only at fp0 fp1 tp0 tp1 hln;obtain⟨PO,hPO⟩:∃PO:Ending->World->Prop,PO=gq w B b l ⟨3,name,tag,sa,sc,xs,fn,fp,fa,tn,tp,ta,at_⟩:=⟨_,rfl⟩
 rw[<-hPO];have HPO:=Lib.hid hPO;replace hr:(aM name&&bL tag&&(xs.length==0)&&de fn fp&&aM tn)=true:=hr;simp only[Bool.and_eq_true] at hr;have hhd:bP ⟨3,name,tag,sa,sc,xs,fn,fp,fa,tn,tp,ta,at_⟩=[32,32,105,110,32]++name.data.toList++[32,45,62,32]++aD tn tp:=rfl;clear h hbk nb hl hx hd n0 hPO;obtain⟨⟨⟨⟨hn,-⟩,-⟩,-⟩,ho⟩:=hr;have n16:=bh hn;have t16:=bh ho;clear hn ho;obtain⟨S1,hS1⟩:∃X,(⟨#[32,32,105,110,32]⟩:ByteArray)++name=X:=⟨_,rfl⟩
 have hzS1:S1.size<=21:=by
  have h1:((⟨#[32,32,105,110,32]⟩:ByteArray)).size<=5:=(by decide)
  have h2:(name).size<=16:=n16;rw[<-hS1,ByteArray.size_append];omega
 have lS1:S1.data.toList=((⟨#[32,32,105,110,32]⟩:ByteArray)).data.toList++(name).data.toList:=by rw[<-hS1,ByteArray.data_append,Array.toList_append]
 have addS1:∀w:World,(Op.stringOp .add ((⟨#[32,32,105,110,32]⟩:ByteArray)) (name)).run Tryz.prog w= .ok (.string S1) w:=fun w=>by
  have h1:((⟨#[32,32,105,110,32]⟩:ByteArray)).size<=5:=(by decide)
  have h2:(name).size<=16:=n16;rw[<-hS1];exact run_string_add_sum w _ _ (by omega)
 clear hS1;obtain⟨S2,hS2⟩:∃X,S1++(⟨#[32,45,62,32]⟩:ByteArray)=X:=⟨_,rfl⟩
 have hzS2:S2.size<=25:=by
  have h1:(S1).size<=21:=hzS1;have h2:((⟨#[32,45,62,32]⟩:ByteArray)).size<=4:=(by decide)
  rw[<-hS2,ByteArray.size_append];omega
 have lS2:S2.data.toList=(S1).data.toList++((⟨#[32,45,62,32]⟩:ByteArray)).data.toList:=by rw[<-hS2,ByteArray.data_append,Array.toList_append]
 have addS2:∀w:World,(Op.stringOp .add (S1) ((⟨#[32,45,62,32]⟩:ByteArray))).run Tryz.prog w= .ok (.string S2) w:=fun w=>by
  have h1:(S1).size<=21:=hzS1;have h2:((⟨#[32,45,62,32]⟩:ByteArray)).size<=4:=(by decide)
  rw[<-hS2];exact run_string_add_sum w _ _ (by omega)
 clear hS2;go_enter Tryz.func75,Tryz.ntmps75;have hw:=bC _ B b (l) S2 HW1.out.1 (by have h1:=HL1.out;have h2:(S2).size<=25:=hzS2;omega) HW1.out.1.lt.2;go_wp2_with fail;refine hw.mono ?_;rintro e w1 ⟨rfl,b1,k1⟩;have hsz1:((S2).data.toList).length<=25:=by rw[ai];exact hzS2
 have hbk:=k1.heap HBK.out rfl;obtain⟨⟨d0,d1,d2,d3,d4,d5,d6,d7,d8,d9,d10⟩,-,hX1⟩:=aN hbk;have HBKn:=Lib.hid hbk;clear HBK;have HBK:=HBKn;clear HBKn;have HW2:=Lib.hid (And.intro b1 (HW1.out.2.trans k1));have HL2:Hid ((l++(S2).data.toList).length<=1048601):=Lib.hid (by have h1:(l).length<=1048576:=HL1.out;rw[List.length_append];omega);clear hbk b1 k1 hw c0 c1 c2 c3 c4 c5 c6 c7 c8 c9 c10 hX HW1 HL1;have c0:=d0;have c1:=d1;have c2:=d2;have c3:=d3;have c4:=d4;have c5:=d5;have c6:=d6;have c7:=d7;have c8:=d8;have c9:=d9;have c10:=d10;have hX:=hX1;clear d0 d1 d2 d3 d4 d5 d6 d7 d8 d9 d10 hX1;have hw:=fD w0 _ B b (l++(S2).data.toList) he hB (KZ.nw HW2.out.2 hB HN.out) HW2.out.1 tn tp ta tp0 tp1 (by omega) (by have h1:=HL2.out;omega);go_wp2_with fail;refine hw.mono ?_;rintro e w2 ⟨rfl,b2,k2⟩;have hsz2:=cn tn tp t16 tp0 tp1;have hbk:=k2.heap HBK.out rfl;obtain⟨⟨d0,d1,d2,d3,d4,d5,d6,d7,d8,d9,d10⟩,-,hX2⟩:=aN hbk;have HBKn:=Lib.hid hbk;clear HBK;have HBK:=HBKn;clear HBKn;have HW3:=Lib.hid (And.intro b2 (HW2.out.2.trans k2));have HL3:Hid ((l++(S2).data.toList++aD tn tp).length<=1048639):=Lib.hid (by have h1:(l++(S2).data.toList).length<=1048601:=HL2.out;rw[List.length_append];omega);clear hbk b2 k2 hw c0 c1 c2 c3 c4 c5 c6 c7 c8 c9 c10 hX HW2 HL2;have c0:=d0;have c1:=d1;have c2:=d2;have c3:=d3;have c4:=d4;have c5:=d5;have c6:=d6;have c7:=d7;have c8:=d8;have c9:=d9;have c10:=d10;have hX:=hX2;clear d0 d1 d2 d3 d4 d5 d6 d7 d8 d9 d10 hX2;obtain⟨L0,hL0⟩:∃L,L=l++(S2).data.toList++aD tn tp:=⟨_,rfl⟩
 have hLe:L0=l++bP ⟨3,name,tag,sa,sc,xs,fn,fp,fa,tn,tp,ta,at_⟩:=by rw[hL0,hhd];rw[lS2,lS1];(try simp)
 rw[<-hL0] at HW3 HL3;have HLE:=Lib.hid hLe;have hs0:Bd w2 B b (L0++ak (xs.take 0)):=by simpa[ak] using HW3.out.1
 have HS0:=Lib.hid (And.intro hs0 HW3.out.2);have HS1:Hid ((L0++ak (xs.take 0)).length<=1048700):=Lib.hid (by have h1:=HL3.out;simp[ak];omega);have HWN:=Lib.hid (KZ.nw HW3.out.2 hB HN.out);clear hL0 hLe hs0 hhd;go_wp2_with fail;go_loopw [67] (fun i wr=>∃k:Nat,k<=xs.length∧i= .int .i64 k∧Hid (Bd wr B b (L0++ak (xs.take k))∧KZ B w wr)∧Hid ((L0++ak (xs.take k)).length<=1048700)) (fun i _=>xs.length-(intOf i).toNat)
 case atStart=>exact⟨0,by omega,rfl,HS0,HS1⟩
 case round=>
  clear HS0 HS1;obtain⟨k,hk,rfl,HS,HLn⟩:=hrel;by_cases hk1:k<xs.length
  ·have hkI:(k:Int)<(xs.length:Int):=by omega
   have hkd:decide (k<xs.length)=true:=decide_eq_true hk1;have hnw:=KZ.nw HS.out.2 hB HN.out;obtain⟨bb,off,hab,q0⟩:=(HX.out.new hnw) k (by simpa[Is] using hk1);have hv:(Is xs).getD k undef=I xs[k]:=by simp[Is,hk1]
   rw[hv] at q0;have hbw:=World.block_lt_of_cell? wr _ q0;obtain⟨v0,v1⟩:=HD.out.xs _ (List.getElem_mem hk1);have hsucc:=cT xs k hk1;subst hab;generalize xs[k]=v at q0 v0 v1 hsucc;have HSU:=Lib.hid hsucc;have hlen:=fK wr B b _ HS.out.1;by_cases hbig:1048576<(L0++ak (xs.take k)).length
   ·have hbI:(1048576:Int)<(((L0++ak (xs.take k)).length:Nat):Int):=by omega
    have HBG:=Lib.hid hbig;obtain⟨m,hm⟩:∃m,(L0++ak (xs.take k)).length=m:=⟨_,rfl⟩
    rw[hm] at hlen hbI;clear hv hsucc hbig hm hnw;go_wp2_with fail;refine hlen.mono ?_;rintro e w' ⟨rfl,rfl⟩;go_wp2_with fail;(first|go_end0|refine bodyPost_ret (results_none (by kernel_rfl) _ _ _) rfl ?_|skip)
    rw[HPO.out];exact gM rfl HS.out.2 HLE.out HS.out.1 HLn.out HBG.out
   ·have hbI:¬(1048576:Int)<(((L0++ak (xs.take k)).length:Nat):Int):=by omega
    have HBG:=Lib.hid hbig;have hito:=fun W (n:New wr W)=>gw W v v0 v1 (he.new (hnw.trans n))
    obtain⟨Sv,hSv⟩:∃S,cC v=S:=⟨_,rfl⟩
    have hSz:=fz v v0 v1;rw[hSv] at hito hSz;have hSl:Sv.data.toList=Lib.itoa v:=by rw[<-hSv];rfl
    obtain⟨Sw,hSw⟩:∃S,(⟨#[32]⟩:ByteArray)++Sv=S:=⟨_,rfl⟩
    have hSwz:Sw.size=1+Sv.size:=by rw[<-hSw,ByteArray.size_append];rfl
    have hSwl:Sw.data.toList=32::Lib.itoa v:=by rw[<-hSw,ByteArray.data_append,Array.toList_append,hSl];rfl
    have hadd:∀w:World,(Op.stringOp .add (⟨#[32]⟩:ByteArray) Sv).run Tryz.prog w= .ok (.string Sw) w:=fun w=>by rw[<-hSw];exact run_string_add_sum w _ _ (by show 1+Sv.size<=_;omega)
    have HSW:=Lib.hid (And.intro hSwz hSwl);have HSZ:=Lib.hid hSz;obtain⟨m,hm⟩:∃m,(L0++ak (xs.take k)).length=m:=⟨_,rfl⟩
    rw[hm] at hlen hbI;clear hv hsucc hbig hm hnw hSv hSl hSw hSwz hSwl hSz;go_wp2_with fail;refine hlen.mono ?_;rintro e w' ⟨rfl,rfl⟩;go_wp2_with fail;refine(hito _ (New.refl _)).mono ?_;rintro e w2 ⟨rfl,n2⟩;have hw:=bC w2 B b _ Sw (HS.out.1.new n2) (by have h1:=HLn.out;have h2:=HSW.out.1;have h3:=HSZ.out;omega) (HS.out.1.new n2).lt.2;have HK2:=Lib.hid (HS.out.2.trans (KY.of_new n2));clear n2 hito hlen;go_wp2_with fail;refine hw.mono ?_;rintro e w3 ⟨rfl,b3,k3⟩;have HS3:=Lib.hid (And.intro b3 (HK2.out.trans k3));clear hw b3 k3 q0 hbw;go_wp2_with fail;go_roundw
    case rel=>
     refine⟨k+1,by omega,by go_num,Lib.hid ⟨?_,HS3.out.2⟩,Lib.hid ?_⟩
     ·rw[HSU.out,<-List.append_assoc,<-HSW.out.2];exact HS3.out.1
     ·rw[HSU.out,<-List.append_assoc,<-HSW.out.2,List.length_append,ai];have h1:=HSW.out.1;have h3:=HSZ.out;have h4:=HBG.out;omega
    case measure=>simp[intOf];omega
  ·have hke:k=xs.length:=by omega
   have hkd:decide (k<xs.length)=false:=decide_eq_false hk1;have hk9:¬(k:Int)<(xs.length:Int):=by omega
   have HB9:Hid (Bd wr B b (L0++ak xs)∧(L0++ak xs).length<=1048700):=Lib.hid (by
    have h1:=HS.out.1;have h2:=HLn.out;rw[hke,List.take_length] at h1 h2;exact⟨h1,h2⟩)
   have hw:=bC wr B b _ (⟨#[59,10]⟩:ByteArray) HB9.out.1 (by have:=HB9.out.2;show _+2<=_;omega) HB9.out.1.lt.2;clear hke;go_wp2_with fail;refine hw.mono ?_;rintro e w3 ⟨rfl,b3,k3⟩;go_wp2_with fail;(first|go_end0|refine bodyPost_ret (results_none (by kernel_rfl) _ _ _) rfl ?_|skip)
   rw[HPO.out];exact gN rfl (HS.out.2.trans k3) HLE.out b3 HB9.out.2
set_option maxRecDepth 100000 in
set_option maxHeartbeats 8000000 in
theorem rL (w0 w:World) (B b:Nat) (l:List UInt8) (he:Env w0) (hB:w0.heap.size<=B) (n0:New w0 w) (h:Bd w B b l) (name tag:ByteArray) (sa:Option Addr) (sc:Nat) (xs:List Int) (fn:ByteArray) (fp fa:Int) (tn:ByteArray) (tp ta at_:Int) (hx:am w0 sa (Is xs)) (hr:aP ⟨4,name,tag,sa,sc,xs,fn,fp,fa,tn,tp,ta,at_⟩=true) (hd:IBnd ⟨4,name,tag,sa,sc,xs,fn,fp,fa,tn,tp,ta,at_⟩) (hl:l.length<=1048576):
  Calls Tryz.prog 75 #[.pointer (some ⟨b,0,none⟩),.agg (itA ⟨4,name,tag,sa,sc,xs,fn,fp,fa,tn,tp,ta,at_⟩)] w (gq w B b l ⟨4,name,tag,sa,sc,xs,fn,fp,fa,tn,tp,ta,at_⟩):=by
 have nb:New w (w.alloc (.cells #[.int .u8 4,.string name,.string tag,.slice sa xs.length sc,.string fn,I fp,I fa,.string tn,I tp,I ta,I at_] ItT)):=(New.refl w).alloc _;have hbk:(w.alloc (.cells #[.int .u8 4,.string name,.string tag,.slice sa xs.length sc,.string fn,I fp,I fa,.string tn,I tp,I ta,I at_] ItT)).heap[w.heap.size]? =some (.cells #[.int .u8 4,.string name,.string tag,.slice sa xs.length sc,.string fn,I fp,I fa,.string tn,I tp,I ta,I at_] ItT (0,0)):=heap_alloc_new w _;obtain⟨⟨c0,c1,c2,c3,c4,c5,c6,c7,c8,c9,c10⟩,-,hX⟩:=aN hbk;have HBK:=Lib.hid hbk;have HW1:=Lib.hid (And.intro (h.new nb) (KY.of_new (p:=bdO) (B:=B) nb));have HL1:Hid (l.length<=1048576):=Lib.hid hl;have HN:=Lib.hid n0;have HX:=Lib.hid hx;have HD:=Lib.hid hd;obtain⟨fp0,fp1⟩:=hd.p0;obtain⟨tp0,tp1⟩:=hd.p1;have hln:=hd.ln;simp only at fp0 fp1 tp0 tp1 hln;obtain⟨PO,hPO⟩:∃PO:Ending->World->Prop,PO=gq w B b l ⟨4,name,tag,sa,sc,xs,fn,fp,fa,tn,tp,ta,at_⟩:=⟨_,rfl⟩
 rw[<-hPO];have HPO:=Lib.hid hPO;replace hr:(aM name&&bL tag&&(xs.length==0)&&aM fn&&de tn tp)=true:=hr;simp only[Bool.and_eq_true] at hr;have hhd:bP ⟨4,name,tag,sa,sc,xs,fn,fp,fa,tn,tp,ta,at_⟩=[32,32,111,117,116,32]++aD fn fp++[32,45,62,32]++name.data.toList:=rfl;clear h hbk nb hl hx hd n0 hPO;obtain⟨⟨⟨⟨hn,-⟩,-⟩,hf⟩,-⟩:=hr;have n16:=bh hn;have f16:=bh hf;clear hn hf;obtain⟨S1,hS1⟩:∃X,(⟨#[32,45,62,32]⟩:ByteArray)++name=X:=⟨_,rfl⟩
 have hzS1:S1.size<=20:=by
  have h1:((⟨#[32,45,62,32]⟩:ByteArray)).size<=4:=(by decide)
  have h2:(name).size<=16:=n16;rw[<-hS1,ByteArray.size_append];omega
 have lS1:S1.data.toList=((⟨#[32,45,62,32]⟩:ByteArray)).data.toList++(name).data.toList:=by rw[<-hS1,ByteArray.data_append,Array.toList_append]
 have addS1:∀w:World,(Op.stringOp .add ((⟨#[32,45,62,32]⟩:ByteArray)) (name)).run Tryz.prog w= .ok (.string S1) w:=fun w=>by
  have h1:((⟨#[32,45,62,32]⟩:ByteArray)).size<=4:=(by decide)
  have h2:(name).size<=16:=n16;rw[<-hS1];exact run_string_add_sum w _ _ (by omega)
 clear hS1;go_enter Tryz.func75,Tryz.ntmps75;have hw:=bC _ B b (l) (⟨#[32,32,111,117,116,32]⟩:ByteArray) HW1.out.1 (by have h1:=HL1.out;have h2:((⟨#[32,32,111,117,116,32]⟩:ByteArray)).size<=6:=(by decide);omega) HW1.out.1.lt.2;go_wp2_with fail;refine hw.mono ?_;rintro e w1 ⟨rfl,b1,k1⟩;have hsz1:(((⟨#[32,32,111,117,116,32]⟩:ByteArray)).data.toList).length<=6:=by rw[ai];exact(by decide)
 have hbk:=k1.heap HBK.out rfl;obtain⟨⟨d0,d1,d2,d3,d4,d5,d6,d7,d8,d9,d10⟩,-,hX1⟩:=aN hbk;have HBKn:=Lib.hid hbk;clear HBK;have HBK:=HBKn;clear HBKn;have HW2:=Lib.hid (And.intro b1 (HW1.out.2.trans k1));have HL2:Hid ((l++((⟨#[32,32,111,117,116,32]⟩:ByteArray)).data.toList).length<=1048582):=Lib.hid (by have h1:(l).length<=1048576:=HL1.out;rw[List.length_append];omega);clear hbk b1 k1 hw c0 c1 c2 c3 c4 c5 c6 c7 c8 c9 c10 hX HW1 HL1;have c0:=d0;have c1:=d1;have c2:=d2;have c3:=d3;have c4:=d4;have c5:=d5;have c6:=d6;have c7:=d7;have c8:=d8;have c9:=d9;have c10:=d10;have hX:=hX1;clear d0 d1 d2 d3 d4 d5 d6 d7 d8 d9 d10 hX1;have hw:=fD w0 _ B b (l++((⟨#[32,32,111,117,116,32]⟩:ByteArray)).data.toList) he hB (KZ.nw HW2.out.2 hB HN.out) HW2.out.1 fn fp fa fp0 fp1 (by omega) (by have h1:=HL2.out;omega);go_wp2_with fail;refine hw.mono ?_;rintro e w2 ⟨rfl,b2,k2⟩;have hsz2:=cn fn fp f16 fp0 fp1;have hbk:=k2.heap HBK.out rfl;obtain⟨⟨d0,d1,d2,d3,d4,d5,d6,d7,d8,d9,d10⟩,-,hX2⟩:=aN hbk;have HBKn:=Lib.hid hbk;clear HBK;have HBK:=HBKn;clear HBKn;have HW3:=Lib.hid (And.intro b2 (HW2.out.2.trans k2));have HL3:Hid ((l++((⟨#[32,32,111,117,116,32]⟩:ByteArray)).data.toList++aD fn fp).length<=1048620):=Lib.hid (by have h1:(l++((⟨#[32,32,111,117,116,32]⟩:ByteArray)).data.toList).length<=1048582:=HL2.out;rw[List.length_append];omega);clear hbk b2 k2 hw c0 c1 c2 c3 c4 c5 c6 c7 c8 c9 c10 hX HW2 HL2;have c0:=d0;have c1:=d1;have c2:=d2;have c3:=d3;have c4:=d4;have c5:=d5;have c6:=d6;have c7:=d7;have c8:=d8;have c9:=d9;have c10:=d10;have hX:=hX2;clear d0 d1 d2 d3 d4 d5 d6 d7 d8 d9 d10 hX2;have hw:=bC _ B b (l++((⟨#[32,32,111,117,116,32]⟩:ByteArray)).data.toList++aD fn fp) S1 HW3.out.1 (by have h1:=HL3.out;have h2:(S1).size<=20:=hzS1;omega) HW3.out.1.lt.2;go_wp2_with fail;refine hw.mono ?_;rintro e w3 ⟨rfl,b3,k3⟩;have hsz3:((S1).data.toList).length<=20:=by rw[ai];exact hzS1
 have hbk:=k3.heap HBK.out rfl;obtain⟨⟨d0,d1,d2,d3,d4,d5,d6,d7,d8,d9,d10⟩,-,hX3⟩:=aN hbk;have HBKn:=Lib.hid hbk;clear HBK;have HBK:=HBKn;clear HBKn;have HW4:=Lib.hid (And.intro b3 (HW3.out.2.trans k3));have HL4:Hid ((l++((⟨#[32,32,111,117,116,32]⟩:ByteArray)).data.toList++aD fn fp++(S1).data.toList).length<=1048640):=Lib.hid (by have h1:(l++((⟨#[32,32,111,117,116,32]⟩:ByteArray)).data.toList++aD fn fp).length<=1048620:=HL3.out;rw[List.length_append];omega);clear hbk b3 k3 hw c0 c1 c2 c3 c4 c5 c6 c7 c8 c9 c10 hX HW3 HL3;have c0:=d0;have c1:=d1;have c2:=d2;have c3:=d3;have c4:=d4;have c5:=d5;have c6:=d6;have c7:=d7;have c8:=d8;have c9:=d9;have c10:=d10;have hX:=hX3;clear d0 d1 d2 d3 d4 d5 d6 d7 d8 d9 d10 hX3;obtain⟨L0,hL0⟩:∃L,L=l++((⟨#[32,32,111,117,116,32]⟩:ByteArray)).data.toList++aD fn fp++(S1).data.toList:=⟨_,rfl⟩
 have hLe:L0=l++bP ⟨4,name,tag,sa,sc,xs,fn,fp,fa,tn,tp,ta,at_⟩:=by rw[hL0,hhd];rw[lS1];(try simp)
 rw[<-hL0] at HW4 HL4;have HLE:=Lib.hid hLe;have hs0:Bd w3 B b (L0++ak (xs.take 0)):=by simpa[ak] using HW4.out.1
 have HS0:=Lib.hid (And.intro hs0 HW4.out.2);have HS1:Hid ((L0++ak (xs.take 0)).length<=1048700):=Lib.hid (by have h1:=HL4.out;simp[ak];omega);have HWN:=Lib.hid (KZ.nw HW4.out.2 hB HN.out);clear hL0 hLe hs0 hhd;go_wp2_with fail;go_loopw [67] (fun i wr=>∃k:Nat,k<=xs.length∧i= .int .i64 k∧Hid (Bd wr B b (L0++ak (xs.take k))∧KZ B w wr)∧Hid ((L0++ak (xs.take k)).length<=1048700)) (fun i _=>xs.length-(intOf i).toNat)
 case atStart=>exact⟨0,by omega,rfl,HS0,HS1⟩
 case round=>
  clear HS0 HS1;obtain⟨k,hk,rfl,HS,HLn⟩:=hrel;by_cases hk1:k<xs.length
  ·have hkI:(k:Int)<(xs.length:Int):=by omega
   have hkd:decide (k<xs.length)=true:=decide_eq_true hk1;have hnw:=KZ.nw HS.out.2 hB HN.out;obtain⟨bb,off,hab,q0⟩:=(HX.out.new hnw) k (by simpa[Is] using hk1);have hv:(Is xs).getD k undef=I xs[k]:=by simp[Is,hk1]
   rw[hv] at q0;have hbw:=World.block_lt_of_cell? wr _ q0;obtain⟨v0,v1⟩:=HD.out.xs _ (List.getElem_mem hk1);have hsucc:=cT xs k hk1;subst hab;generalize xs[k]=v at q0 v0 v1 hsucc;have HSU:=Lib.hid hsucc;have hlen:=fK wr B b _ HS.out.1;by_cases hbig:1048576<(L0++ak (xs.take k)).length
   ·have hbI:(1048576:Int)<(((L0++ak (xs.take k)).length:Nat):Int):=by omega
    have HBG:=Lib.hid hbig;obtain⟨m,hm⟩:∃m,(L0++ak (xs.take k)).length=m:=⟨_,rfl⟩
    rw[hm] at hlen hbI;clear hv hsucc hbig hm hnw;go_wp2_with fail;refine hlen.mono ?_;rintro e w' ⟨rfl,rfl⟩;go_wp2_with fail;(first|go_end0|refine bodyPost_ret (results_none (by kernel_rfl) _ _ _) rfl ?_|skip)
    rw[HPO.out];exact gM rfl HS.out.2 HLE.out HS.out.1 HLn.out HBG.out
   ·have hbI:¬(1048576:Int)<(((L0++ak (xs.take k)).length:Nat):Int):=by omega
    have HBG:=Lib.hid hbig;have hito:=fun W (n:New wr W)=>gw W v v0 v1 (he.new (hnw.trans n))
    obtain⟨Sv,hSv⟩:∃S,cC v=S:=⟨_,rfl⟩
    have hSz:=fz v v0 v1;rw[hSv] at hito hSz;have hSl:Sv.data.toList=Lib.itoa v:=by rw[<-hSv];rfl
    obtain⟨Sw,hSw⟩:∃S,(⟨#[32]⟩:ByteArray)++Sv=S:=⟨_,rfl⟩
    have hSwz:Sw.size=1+Sv.size:=by rw[<-hSw,ByteArray.size_append];rfl
    have hSwl:Sw.data.toList=32::Lib.itoa v:=by rw[<-hSw,ByteArray.data_append,Array.toList_append,hSl];rfl
    have hadd:∀w:World,(Op.stringOp .add (⟨#[32]⟩:ByteArray) Sv).run Tryz.prog w= .ok (.string Sw) w:=fun w=>by rw[<-hSw];exact run_string_add_sum w _ _ (by show 1+Sv.size<=_;omega)
    have HSW:=Lib.hid (And.intro hSwz hSwl);have HSZ:=Lib.hid hSz;obtain⟨m,hm⟩:∃m,(L0++ak (xs.take k)).length=m:=⟨_,rfl⟩
    rw[hm] at hlen hbI;clear hv hsucc hbig hm hnw hSv hSl hSw hSwz hSwl hSz;go_wp2_with fail;refine hlen.mono ?_;rintro e w' ⟨rfl,rfl⟩;go_wp2_with fail;refine(hito _ (New.refl _)).mono ?_;rintro e w2 ⟨rfl,n2⟩;have hw:=bC w2 B b _ Sw (HS.out.1.new n2) (by have h1:=HLn.out;have h2:=HSW.out.1;have h3:=HSZ.out;omega) (HS.out.1.new n2).lt.2;have HK2:=Lib.hid (HS.out.2.trans (KY.of_new n2));clear n2 hito hlen;go_wp2_with fail;refine hw.mono ?_;rintro e w3 ⟨rfl,b3,k3⟩;have HS3:=Lib.hid (And.intro b3 (HK2.out.trans k3));clear hw b3 k3 q0 hbw;go_wp2_with fail;go_roundw
    case rel=>
     refine⟨k+1,by omega,by go_num,Lib.hid ⟨?_,HS3.out.2⟩,Lib.hid ?_⟩
     ·rw[HSU.out,<-List.append_assoc,<-HSW.out.2];exact HS3.out.1
     ·rw[HSU.out,<-List.append_assoc,<-HSW.out.2,List.length_append,ai];have h1:=HSW.out.1;have h3:=HSZ.out;have h4:=HBG.out;omega
    case measure=>simp[intOf];omega
  ·have hke:k=xs.length:=by omega
   have hkd:decide (k<xs.length)=false:=decide_eq_false hk1;have hk9:¬(k:Int)<(xs.length:Int):=by omega
   have HB9:Hid (Bd wr B b (L0++ak xs)∧(L0++ak xs).length<=1048700):=Lib.hid (by
    have h1:=HS.out.1;have h2:=HLn.out;rw[hke,List.take_length] at h1 h2;exact⟨h1,h2⟩)
   have hw:=bC wr B b _ (⟨#[59,10]⟩:ByteArray) HB9.out.1 (by have:=HB9.out.2;show _+2<=_;omega) HB9.out.1.lt.2;clear hke;go_wp2_with fail;refine hw.mono ?_;rintro e w3 ⟨rfl,b3,k3⟩;go_wp2_with fail;(first|go_end0|refine bodyPost_ret (results_none (by kernel_rfl) _ _ _) rfl ?_|skip)
   rw[HPO.out];exact gN rfl (HS.out.2.trans k3) HLE.out b3 HB9.out.2
theorem rK (w0 w:World) (B b:Nat) (l:List UInt8) (he:Env w0) (hB:w0.heap.size<=B) (n0:New w0 w) (h:Bd w B b l) (x:SIt) (hx:am w0 x.a (Is x.xs)) (hr:aP x=true) (hd:IBnd x) (hl:l.length<=1048576):
  Calls Tryz.prog 75 #[.pointer (some ⟨b,0,none⟩),.agg (itA x)] w (gq w B b l x):=by
 obtain⟨kind,name,tag,sa,sc,xs,fn,fp,fa,tn,tp,ta,at_⟩:=x;have hk:kind=1∨kind=2∨kind=3∨kind=4:=by
  unfold aP at hr;simp only at hr;split at hr
  ·exact .inl (by assumption)
  ·split at hr
   ·exact .inr (.inl (by assumption))
   ·split at hr
    ·exact .inr (.inr (.inl (by assumption)))
    ·split at hr
     ·exact .inr (.inr (.inr (by assumption)))
     ·cases hr
 rcases hk with rfl|rfl|rfl|rfl
 ·exact nU w0 w B b l he hB n0 h name tag sa sc xs fn fp fa tn tp ta at_ hx hr hd hl
 ·by_cases hxs:xs=[]
  ·exact nV w0 w B b l he hB n0 h name tag sa sc xs fn fp fa tn tp ta at_ hx hr hd hxs hl
  ·exact nW w0 w B b l he hB n0 h name tag sa sc xs fn fp fa tn tp ta at_ hx hr hd hxs hl
 ·exact ud w0 w B b l he hB n0 h name tag sa sc xs fn fp fa tn tp ta at_ hx hr hd hl
 ·exact rL w0 w B b l he hB n0 h name tag sa sc xs fn fp fa tn tp ta at_ hx hr hd hl
end Go.Proofs.YtnedmonlofbahaaGreatDoor
