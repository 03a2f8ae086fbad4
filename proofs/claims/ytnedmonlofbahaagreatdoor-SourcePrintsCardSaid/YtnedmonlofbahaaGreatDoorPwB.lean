/-
  SkRb, SkRc: what is wanted of them.
-/
import Derived.Test.YtnedmonlofbahaaGreatDoorPwA
namespace Go.Proofs.YtnedmonlofbahaaGreatDoor
open Go Go.RowKit Go.Joins
set_option linter.all false
abbrev eq (w:World) (B:Nat) (a:Option Addr) (n c:Nat) (L:List UInt8):Prop:=w.ownsRow B 5 1 (.slice a n c) n (dA L)
def hJ (w:World) (x:SIt) (e:Ending) (w':World):Prop:=∃(a:Option Addr) (c n:Nat) (L:List UInt8),e= .returned (.slice a n c)∧eq w' w.heap.size a n c L∧L.length=n∧(L=bw x∨1048576<n∧1048576<(bw x).length)∧n<=1048900∧New w w'
theorem gA {w w':World} {x:SIt} {a:Option Addr} {c n m:Nat} {k:Nat} {L0:List UInt8} (h0:L0=bP x) (hl:(L0++ak (x.xs.take k)).length=m) (hb:m<=1048700) (hk:k=x.xs.length∨1048576<m)
  (hn:m+2=n) (ho:eq w' w.heap.size a n c (L0++ak (x.xs.take k)++[59,10])) (hw:New w w'):hJ w x (.returned (.slice a n c)) w':=by
 subst h0;refine⟨a,c,n,_,rfl,ho,by rw[List.length_append,hl];exact hn,?_,by omega,hw⟩;rcases hk with rfl|hk
 ·left;unfold bw;rw[List.take_length]
 ·right
  refine⟨by omega,?_⟩;obtain⟨r,hr⟩:=lN x.xs k;unfold bw;rw[<-hr,<-List.append_assoc];simp only[List.length_append] at hl ⊢;omega
theorem dC {w w':World} {B:Nat} {a:Option Addr} {n c:Nat} {L:List UInt8} (ho:eq w B a n c L) (hk:Keeps (blk a) w w') {b:Nat} {cs:Array Value} (hb:w.heap[b]? =some (.cells cs 105 (0,0))):w'.heap[b]? =some (.cells cs 105 (0,0)):=
 hk.heap hb (fun hx=>by
  obtain⟨cur,hc⟩:=be ho (bu hx);rw[hb] at hc;simp at hc)
theorem pF {w w':World} {B:Nat} {a:Option Addr} {n c:Nat} {L:List UInt8} (ho:eq w B a n c L) (hk:Keeps (blk a) w w') {b:Nat} {cs:Array Value} (hb:w.heap[b]? =some (.cells cs 52 (0,0))):w'.heap[b]? =some (.cells cs 52 (0,0)):=
 hk.heap hb (fun hx=>by
  obtain⟨cur,hc⟩:=be ho (bu hx);rw[hb] at hc;simp at hc)
theorem dm (w:World) (B:Nat):eq w B none 0 0 []:=World.ownsRow_nil _ _ _ _
set_option maxRecDepth 100000 in
set_option maxHeartbeats 8000000 in
theorem nM (w:World) (name tag:ByteArray) (sa:Option Addr) (sc:Nat) (xs:List Int) (fn:ByteArray) (fp fa:Int) (tn:ByteArray) (tp ta at_:Int) (hx:am w sa (Is xs)) (hr:aP (⟨1,name,tag,sa,sc,xs,fn,fp,fa,tn,tp,ta,at_⟩:SIt)=true) (hd:IBnd (⟨1,name,tag,sa,sc,xs,fn,fp,fa,tn,tp,ta,at_⟩:SIt)):
    Calls Tryz.prog 82 #[.agg (itA (⟨1,name,tag,sa,sc,xs,fn,fp,fa,tn,tp,ta,at_⟩:SIt))] w (hJ w (⟨1,name,tag,sa,sc,xs,fn,fp,fa,tn,tp,ta,at_⟩:SIt)):=by
  have nb:New w (w.alloc (.cells #[.int .u8 1,.string name,.string tag,.slice sa xs.length sc,.string fn,I fp,I fa,.string tn,I tp,I ta,I at_] ItT)):=(New.refl w).alloc _;have hbk:(w.alloc (.cells #[.int .u8 1,.string name,.string tag,.slice sa xs.length sc,.string fn,I fp,I fa,.string tn,I tp,I ta,I at_] ItT)).heap[w.heap.size]? =some (.cells #[.int .u8 1,.string name,.string tag,.slice sa xs.length sc,.string fn,I fp,I fa,.string tn,I tp,I ta,I at_] ItT (0,0)):=heap_alloc_new w _;obtain⟨⟨c0,c1,c2,c3,c4,c5,c6,c7,c8,c9,c10⟩,-,hX⟩:=aN hbk;have HBK:=Lib.hid hbk;have HX:=Lib.hid hx;have HD:=Lib.hid hd;have HN:=Lib.hid nb;obtain⟨fp0,fp1⟩:=hd.p0;obtain⟨tp0,tp1⟩:=hd.p1;have hln:=hd.ln;simp only at fp0 fp1 tp0 tp1 hln;obtain⟨PO,hPO⟩:∃PO:Ending->World->Prop,PO=hJ w (⟨1,name,tag,sa,sc,xs,fn,fp,fa,tn,tp,ta,at_⟩:SIt):=⟨_,rfl⟩
  rw[<-hPO];have HPO:=Lib.hid hPO;replace hr:(aM name&&aM tag&&de fn fp&&de tn tp)=true:=hr;simp only[Bool.and_eq_true] at hr;have hhd:bP (⟨1,name,tag,sa,sc,xs,fn,fp,fa,tn,tp,ta,at_⟩:SIt)=[32,32,97,99,116,111,114,32]++name.data.toList++[32,61,32]++tag.data.toList:=rfl;clear hbk hx hd hPO;obtain⟨⟨⟨hn,ht⟩,-⟩,-⟩:=hr;have n16:=bh hn;have t16:=bh ht;clear hn ht;obtain⟨S1,hS1⟩:∃X,(⟨#[32,32,97,99,116,111,114,32]⟩:ByteArray)++name=X:=⟨_,rfl⟩
  have hzS1:S1.size<=24:=by
    have h1:((⟨#[32,32,97,99,116,111,114,32]⟩:ByteArray)).size<=8:=(by decide)
    have h2:(name).size<=16:=n16;rw[<-hS1,ByteArray.size_append];omega
  have lS1:S1.data.toList=((⟨#[32,32,97,99,116,111,114,32]⟩:ByteArray)).data.toList++(name).data.toList:=by rw[<-hS1,ByteArray.data_append,Array.toList_append]
  have addS1:∀w:World,(Op.stringOp .add ((⟨#[32,32,97,99,116,111,114,32]⟩:ByteArray)) (name)).run Tryz.prog w= .ok (.string S1) w:=fun w=>by
    have h1:((⟨#[32,32,97,99,116,111,114,32]⟩:ByteArray)).size<=8:=(by decide)
    have h2:(name).size<=16:=n16;rw[<-hS1];exact run_string_add_sum w _ _ (by omega)
  clear hS1;obtain⟨S2,hS2⟩:∃X,S1++(⟨#[32,61,32]⟩:ByteArray)=X:=⟨_,rfl⟩
  have hzS2:S2.size<=27:=by
    have h1:(S1).size<=24:=hzS1;have h2:((⟨#[32,61,32]⟩:ByteArray)).size<=3:=(by decide)
    rw[<-hS2,ByteArray.size_append];omega
  have lS2:S2.data.toList=(S1).data.toList++((⟨#[32,61,32]⟩:ByteArray)).data.toList:=by rw[<-hS2,ByteArray.data_append,Array.toList_append]
  have addS2:∀w:World,(Op.stringOp .add (S1) ((⟨#[32,61,32]⟩:ByteArray))).run Tryz.prog w= .ok (.string S2) w:=fun w=>by
    have h1:(S1).size<=24:=hzS1;have h2:((⟨#[32,61,32]⟩:ByteArray)).size<=3:=(by decide)
    rw[<-hS2];exact run_string_add_sum w _ _ (by omega)
  clear hS2;obtain⟨S3,hS3⟩:∃X,S2++tag=X:=⟨_,rfl⟩
  have hzS3:S3.size<=43:=by
    have h1:(S2).size<=27:=hzS2;have h2:(tag).size<=16:=t16;rw[<-hS3,ByteArray.size_append];omega
  have lS3:S3.data.toList=(S2).data.toList++(tag).data.toList:=by rw[<-hS3,ByteArray.data_append,Array.toList_append]
  have addS3:∀w:World,(Op.stringOp .add (S2) (tag)).run Tryz.prog w= .ok (.string S3) w:=fun w=>by
    have h1:(S2).size<=27:=hzS2;have h2:(tag).size<=16:=t16;rw[<-hS3];exact run_string_add_sum w _ _ (by omega)
  clear hS3;have hls:S3.data.toList=bP (⟨1,name,tag,sa,sc,xs,fn,fp,fa,tn,tp,ta,at_⟩:SIt):=by rw[hhd];rw[lS3,lS2,lS1]
  have HLS:=Lib.hid hls;clear hls hhd;clear lS1 lS2 lS3;go_enter Tryz.func82,Tryz.ntmps82;have hsz:=nb.size;go_wp2_with (at_builtin;refine wm rfl _ _ rfl w.heap.size none 0 [] 0 rfl (dm (w.alloc (.cells #[.int .u8 1,.string name,.string tag,.slice sa xs.length sc,.string fn,I fp,I fa,.string tn,I tp,I ta,I at_] ItT)) _) S3 rfl (by omega) hsz ?_);intro a1 c1' w1 hown hk;have N1:=Lib.hid (New.keeps nb hk (fun k hk hx=>by obtain⟨y,hy,_⟩:=hx;cases hy));have HB1:=Lib.hid (dC (dm (w.alloc (.cells #[.int .u8 1,.string name,.string tag,.slice sa xs.length sc,.string fn,I fp,I fa,.string tn,I tp,I ta,I at_] ItT)) w.heap.size) hk HBK.out);clear hk c0 c1 c2 c3 c4 c5 c6 c7 c8 c9 c10 hX;obtain⟨⟨c0,c1,c2,c3,c4,c5,c6,c7,c8,c9,c10⟩,-,hX⟩:=aN HB1.out;obtain⟨n0,hn0⟩:∃n,S3.size=n:=⟨_,rfl⟩
  (try simp only[Nat.zero_add,List.nil_append] at hown)
  (try simp only[Nat.zero_add])
  rw[hn0] at hown ⊢;obtain⟨L0,hL0⟩:∃L,S3.data.toList=L:=⟨_,rfl⟩
  rw[hL0] at hown;have hl0:L0.length=n0:=by rw[<-hL0,ai];exact hn0
  have hb0:n0<=43:=by omega
  have hLe:L0=bP (⟨1,name,tag,sa,sc,xs,fn,fp,fa,tn,tp,ta,at_⟩:SIt):=by rw[<-hL0];exact HLS.out
  have HOWN:=Lib.hid hown;clear hown hn0 hL0;have HLE:=Lib.hid hLe;have hnum0:(L0++ak (xs.take 0)).length=n0:=by simpa[ak] using hl0
  have hown0:eq w1 w.heap.size a1 n0 c1' (L0++ak (xs.take 0)):=by simpa[ak] using HOWN.out
  have HA:=Lib.hid (And.intro hown0 hnum0);have HNB:=Lib.hid (And.intro N1.out HB1.out);clear hown0 hnum0 hLe hl0 HOWN;go_wp2_with fail;clear c0 c1 c2 c3 c4 c5 c6 c7 c8 c9 c10 hX;go_loopw [3,4] (fun b i wr=>∃(k m:Nat) (ab:Option Addr) (cb:Nat),k<=xs.length∧i= .int .i64 k∧b= .slice ab m cb∧m<=1048700∧Hid (New w wr∧wr.heap[w.heap.size]? =some (.cells #[.int .u8 1,.string name,.string tag,.slice sa xs.length sc,.string fn,I fp,I fa,.string tn,I tp,I ta,I at_] ItT (0,0)))∧Hid (eq wr w.heap.size ab m cb (L0++ak (xs.take k))∧(L0++ak (xs.take k)).length=m)) (fun _ i _=>xs.length-(intOf i).toNat)
  case atStart=>exact⟨0,n0,a1,c1',by omega,rfl,rfl,by omega,HNB,HA⟩
  case round=>
    clear HA hb0;obtain⟨k,m,ab,cb,hk,rfl,rfl,hm,HNW,HO⟩:=hrel;obtain⟨⟨-,-,-,c3,-,-,-,-,-,-,-⟩,-,hXB⟩:=aN HNW.out.2;have hszr:w.heap.size<=wr.heap.size:=HNW.out.1.size;by_cases hc:k<xs.length∧m<=1048576
    · obtain⟨hk1,hm2⟩:=hc
      have hkI:(k:Int)<(xs.length:Int):=by omega
      have hkd:decide (k<xs.length)=true:=decide_eq_true hk1;have hmI:(m:Int)<=(1048576:Int):=by omega
      have hmd:decide (m<=1048576)=true:=decide_eq_true hm2;obtain⟨bb,off,hab,q0⟩:=(HX.out.new HNW.out.1) k (by simpa[Is] using hk1);have hv:(Is xs).getD k undef=I xs[k]:=by simp[Is,hk1]
      rw[hv] at q0;have hbw:=World.block_lt_of_cell? wr _ q0;have v01:=HD.out.xs _ (List.getElem_mem hk1);have hsucc:=cT xs k hk1;subst hab;generalize xs[k]=v at q0 v01 hsucc hv;have HSU:=Lib.hid hsucc;have hdg:=fun W=>eT W v v01.1 v01.2
      have hSz:=eY v v01;obtain⟨Sv,hSv⟩:∃S,cC v=S:=⟨_,rfl⟩
      rw[hSv] at hdg hSz;have hSl:Sv.data.toList=Lib.itoa v:=by rw[<-hSv];rfl
      obtain⟨Sw,hSw⟩:∃S,(⟨#[32]⟩:ByteArray)++Sv=S:=⟨_,rfl⟩
      have hSwz:Sw.size=1+Sv.size:=by rw[<-hSw,ByteArray.size_append];rfl
      have hSwl:Sw.data.toList=32::Lib.itoa v:=by rw[<-hSw,ByteArray.data_append,Array.toList_append,hSl];rfl
      have hadd:∀w:World,(Op.stringOp .add (⟨#[32]⟩:ByteArray) Sv).run Tryz.prog w= .ok (.string Sw) w:=fun w=>by rw[<-hSw];exact run_string_add_sum w _ _ (by show 1+Sv.size<=_;omega)
      have HSW:=Lib.hid hSwl;have hsw22:Sw.size<=22:=by omega
      clear hv hsucc hSv hSl hSw hSwl hSwz hSz;go_wp2_with fail;refine(hdg _).mono ?_;rintro e w2 ⟨rfl,n2⟩;have HO2:=Lib.hid (n2.owns HO.out.1);have hsz2:=Nat.le_trans hszr n2.size;have HN2:=Lib.hid (And.intro (HNW.out.1.trans n2) (Keeps.heap n2 HNW.out.2 (fun h=>h)));clear hdg n2 q0 hbw c3 hXB;go_wp2_with (at_builtin;refine wm rfl _ _ rfl w.heap.size ab cb (L0++ak (xs.take k)) m rfl HO2.out Sw rfl ?d1 hsz2 ?_);case d1=>omega
      intro a5 c5 w5 hown5 hk5;have HN5:=Lib.hid (And.intro (New.keeps HN2.out.1 hk5 (fun i hi hx=>by have:=(an HO2.out hx).1;omega)) (dC HO2.out hk5 HN2.out.2));have hmm:(L0++ak (xs.take (k+1))).length=m+Sw.size:=by rw[HSU.out,<-List.append_assoc,<-HSW.out,List.length_append,HO.out.2,ai]
      have HO5:Hid (eq w5 w.heap.size a5 (m+Sw.size) c5 (L0++ak (xs.take (k+1)))∧(L0++ak (xs.take (k+1))).length=m+Sw.size):=Lib.hid ⟨by rw[HSU.out,<-HSW.out];(try simp only[List.append_assoc] at hown5 ⊢);exact hown5,hmm⟩;clear hown5 hk5 hmm;go_wp2_with fail;go_roundw
      case rel=>exact⟨k+1,m+Sw.size,a5,c5,by omega,by go_num,by first|rfl|(congr 1),by omega,HN5,HO5⟩
      case measure=>simp[intOf];omega
    · have HF:Hid (∀(a:Option Addr) (c n:Nat) (w':World),m+2=n->eq w' w.heap.size a n c (L0++ak (xs.take k)++[59,10])->New w w'->PO (.returned (.slice a n c)) w'):=Lib.hid (fun a c n w' h1 h2 h3=>by
        rw[HPO.out];exact gA (x:=(⟨1,name,tag,sa,sc,xs,fn,fp,fa,tn,tp,ta,at_⟩:SIt)) HLE.out HO.out.2 hm (by show k=xs.length∨_;omega) h1 h2 h3)
      by_cases hk1:k<xs.length
      case' pos=>
        have hkI:(k:Int)<(xs.length:Int):=by omega
        have hkd:decide (k<xs.length)=true:=decide_eq_true hk1;have hmI:¬(m:Int)<=(1048576:Int):=by omega
        have hmd:decide (m<=1048576)=false:=decide_eq_false (by omega)
      case' neg=>
        have hkI:(xs.length:Int)<=(k:Int):=by omega
        have hkd:decide (k<xs.length)=false:=decide_eq_false hk1
      all_goals
        (clear hc
         go_wp2_with (at_builtin;refine wm rfl _ _ rfl w.heap.size ab cb (L0++ak (xs.take k)) m rfl HO.out.1 (⟨#[59,10]⟩:ByteArray) rfl (by show m+2<=_;omega) hszr ?_);intro a5 c5 w5 hown5 hk5;have HN5:=Lib.hid (New.keeps HNW.out.1 hk5 (fun i hi hx=>by have:=(an HO.out.1 hx).1;omega));go_wp2_with fail;(try go_ret)
         refine HF.out a5 c5 _ _ rfl ?_ HN5.out;(try simp only[List.append_assoc] at hown5 ⊢)
         exact hown5)
set_option maxRecDepth 100000 in
set_option maxHeartbeats 8000000 in
theorem nN (w:World) (name tag:ByteArray) (sa:Option Addr) (sc:Nat) (xs:List Int) (fn:ByteArray) (fp fa:Int) (tn:ByteArray) (tp ta at_:Int) (hx:am w sa (Is xs)) (hr:aP (⟨2,name,tag,sa,sc,xs,fn,fp,fa,tn,tp,ta,at_⟩:SIt)=true) (hd:IBnd (⟨2,name,tag,sa,sc,xs,fn,fp,fa,tn,tp,ta,at_⟩:SIt)) (hxs:xs=[]):
    Calls Tryz.prog 82 #[.agg (itA (⟨2,name,tag,sa,sc,xs,fn,fp,fa,tn,tp,ta,at_⟩:SIt))] w (hJ w (⟨2,name,tag,sa,sc,xs,fn,fp,fa,tn,tp,ta,at_⟩:SIt)):=by
  have nb:New w (w.alloc (.cells #[.int .u8 2,.string name,.string tag,.slice sa xs.length sc,.string fn,I fp,I fa,.string tn,I tp,I ta,I at_] ItT)):=(New.refl w).alloc _;have hbk:(w.alloc (.cells #[.int .u8 2,.string name,.string tag,.slice sa xs.length sc,.string fn,I fp,I fa,.string tn,I tp,I ta,I at_] ItT)).heap[w.heap.size]? =some (.cells #[.int .u8 2,.string name,.string tag,.slice sa xs.length sc,.string fn,I fp,I fa,.string tn,I tp,I ta,I at_] ItT (0,0)):=heap_alloc_new w _;obtain⟨⟨c0,c1,c2,c3,c4,c5,c6,c7,c8,c9,c10⟩,-,hX⟩:=aN hbk;have HBK:=Lib.hid hbk;have HX:=Lib.hid hx;have HD:=Lib.hid hd;have HN:=Lib.hid nb;obtain⟨fp0,fp1⟩:=hd.p0;obtain⟨tp0,tp1⟩:=hd.p1;have hln:=hd.ln;simp only at fp0 fp1 tp0 tp1 hln;obtain⟨PO,hPO⟩:∃PO:Ending->World->Prop,PO=hJ w (⟨2,name,tag,sa,sc,xs,fn,fp,fa,tn,tp,ta,at_⟩:SIt):=⟨_,rfl⟩
  rw[<-hPO];have HPO:=Lib.hid hPO;replace hr:(bL name&&bL tag&&aM fn&&aM tn)=true:=hr;simp only[Bool.and_eq_true] at hr;have hhd:bP (⟨2,name,tag,sa,sc,xs,fn,fp,fa,tn,tp,ta,at_⟩:SIt)=[32,32,101,100,103,101,32]++aD fn fp++[32,45,62,32]++aD tn tp++(if xs=[] then[] else[32,119,105,116,104]):=rfl;clear hbk hx hd hPO;obtain⟨⟨⟨-,-⟩,hf⟩,ho⟩:=hr;have f16:=bh hf;have t16:=bh ho;rw[if_pos hxs] at hhd;have hxl:¬(0:Int)<(xs.length:Int):=by rw[hxs];simp
  have hxd:decide (0<xs.length)=false:=by rw[hxs];rfl
  clear hf ho hxs;have hfc:=fun W=>iG W fn fp fa (by omega) ⟨fp0,fp1⟩
  obtain⟨PF,hPF⟩:∃P:ByteArray,(⟨(aD fn fp).toArray⟩:ByteArray)=P:=⟨_,rfl⟩
  have lPF:PF.data.toList=aD fn fp:=by rw[<-hPF]
  have zPF:PF.size<=38:=by rw[<-ai,lPF];exact cn fn fp f16 fp0 fp1
  rw[hPF] at hfc;clear hPF;have htc:=fun W=>iG W tn tp ta (by omega) ⟨tp0,tp1⟩
  obtain⟨PT,hPT⟩:∃P:ByteArray,(⟨(aD tn tp).toArray⟩:ByteArray)=P:=⟨_,rfl⟩
  have lPT:PT.data.toList=aD tn tp:=by rw[<-hPT]
  have zPT:PT.size<=38:=by rw[<-ai,lPT];exact cn tn tp t16 tp0 tp1
  rw[hPT] at htc;clear hPT;obtain⟨S1,hS1⟩:∃X,(⟨#[32,32,101,100,103,101,32]⟩:ByteArray)++PF=X:=⟨_,rfl⟩
  have hzS1:S1.size<=45:=by
    have h1:((⟨#[32,32,101,100,103,101,32]⟩:ByteArray)).size<=7:=(by decide)
    have h2:(PF).size<=38:=zPF;rw[<-hS1,ByteArray.size_append];omega
  have lS1:S1.data.toList=((⟨#[32,32,101,100,103,101,32]⟩:ByteArray)).data.toList++(PF).data.toList:=by rw[<-hS1,ByteArray.data_append,Array.toList_append]
  have addS1:∀w:World,(Op.stringOp .add ((⟨#[32,32,101,100,103,101,32]⟩:ByteArray)) (PF)).run Tryz.prog w= .ok (.string S1) w:=fun w=>by
    have h1:((⟨#[32,32,101,100,103,101,32]⟩:ByteArray)).size<=7:=(by decide)
    have h2:(PF).size<=38:=zPF;rw[<-hS1];exact run_string_add_sum w _ _ (by omega)
  clear hS1;obtain⟨S2,hS2⟩:∃X,S1++(⟨#[32,45,62,32]⟩:ByteArray)=X:=⟨_,rfl⟩
  have hzS2:S2.size<=49:=by
    have h1:(S1).size<=45:=hzS1;have h2:((⟨#[32,45,62,32]⟩:ByteArray)).size<=4:=(by decide)
    rw[<-hS2,ByteArray.size_append];omega
  have lS2:S2.data.toList=(S1).data.toList++((⟨#[32,45,62,32]⟩:ByteArray)).data.toList:=by rw[<-hS2,ByteArray.data_append,Array.toList_append]
  have addS2:∀w:World,(Op.stringOp .add (S1) ((⟨#[32,45,62,32]⟩:ByteArray))).run Tryz.prog w= .ok (.string S2) w:=fun w=>by
    have h1:(S1).size<=45:=hzS1;have h2:((⟨#[32,45,62,32]⟩:ByteArray)).size<=4:=(by decide)
    rw[<-hS2];exact run_string_add_sum w _ _ (by omega)
  clear hS2;obtain⟨S3,hS3⟩:∃X,S2++PT=X:=⟨_,rfl⟩
  have hzS3:S3.size<=87:=by
    have h1:(S2).size<=49:=hzS2;have h2:(PT).size<=38:=zPT;rw[<-hS3,ByteArray.size_append];omega
  have lS3:S3.data.toList=(S2).data.toList++(PT).data.toList:=by rw[<-hS3,ByteArray.data_append,Array.toList_append]
  have addS3:∀w:World,(Op.stringOp .add (S2) (PT)).run Tryz.prog w= .ok (.string S3) w:=fun w=>by
    have h1:(S2).size<=49:=hzS2;have h2:(PT).size<=38:=zPT;rw[<-hS3];exact run_string_add_sum w _ _ (by omega)
  clear hS3;have hls:S3.data.toList=bP (⟨2,name,tag,sa,sc,xs,fn,fp,fa,tn,tp,ta,at_⟩:SIt):=by rw[hhd];rw[lS3,lS2,lS1,lPF,lPT];(try simp)
  have HLS:=Lib.hid hls;clear hls hhd;clear lS1 lS2 lS3 lPF lPT;go_enter Tryz.func82,Tryz.ntmps82;go_wp2_with fail;have hS0:(fun w':World=>w'.cell? ⟨w.heap.size,1,none⟩=some (.string name)∧w'.cell? ⟨w.heap.size,2,none⟩=some (.string tag)∧w'.cell? ⟨w.heap.size,3,none⟩=some (.slice sa xs.length sc)∧w'.cell? ⟨w.heap.size,4,none⟩=some (.string fn)∧w'.cell? ⟨w.heap.size,5,none⟩=some (I fp)∧w'.cell? ⟨w.heap.size,6,none⟩=some (I fa)∧w'.cell? ⟨w.heap.size,7,none⟩=some (.string tn)∧w'.cell? ⟨w.heap.size,8,none⟩=some (I tp)∧w'.cell? ⟨w.heap.size,9,none⟩=some (I ta)) (w.alloc (.cells #[.int .u8 2,.string name,.string tag,.slice sa xs.length sc,.string fn,I fp,I fa,.string tn,I tp,I ta,I at_] ItT)).drew:=⟨New.cell (New.refl (w.alloc (.cells #[.int .u8 2,.string name,.string tag,.slice sa xs.length sc,.string fn,I fp,I fa,.string tn,I tp,I ta,I at_] ItT))).drew c1,New.cell (New.refl (w.alloc (.cells #[.int .u8 2,.string name,.string tag,.slice sa xs.length sc,.string fn,I fp,I fa,.string tn,I tp,I ta,I at_] ItT))).drew c2,New.cell (New.refl (w.alloc (.cells #[.int .u8 2,.string name,.string tag,.slice sa xs.length sc,.string fn,I fp,I fa,.string tn,I tp,I ta,I at_] ItT))).drew c3,New.cell (New.refl (w.alloc (.cells #[.int .u8 2,.string name,.string tag,.slice sa xs.length sc,.string fn,I fp,I fa,.string tn,I tp,I ta,I at_] ItT))).drew c4,New.cell (New.refl (w.alloc (.cells #[.int .u8 2,.string name,.string tag,.slice sa xs.length sc,.string fn,I fp,I fa,.string tn,I tp,I ta,I at_] ItT))).drew c5,New.cell (New.refl (w.alloc (.cells #[.int .u8 2,.string name,.string tag,.slice sa xs.length sc,.string fn,I fp,I fa,.string tn,I tp,I ta,I at_] ItT))).drew c6,New.cell (New.refl (w.alloc (.cells #[.int .u8 2,.string name,.string tag,.slice sa xs.length sc,.string fn,I fp,I fa,.string tn,I tp,I ta,I at_] ItT))).drew c7,New.cell (New.refl (w.alloc (.cells #[.int .u8 2,.string name,.string tag,.slice sa xs.length sc,.string fn,I fp,I fa,.string tn,I tp,I ta,I at_] ItT))).drew c8,New.cell (New.refl (w.alloc (.cells #[.int .u8 2,.string name,.string tag,.slice sa xs.length sc,.string fn,I fp,I fa,.string tn,I tp,I ta,I at_] ItT))).drew c9⟩
  refine ar (fun w':World=>w'.cell? ⟨w.heap.size,1,none⟩=some (.string name)∧w'.cell? ⟨w.heap.size,2,none⟩=some (.string tag)∧w'.cell? ⟨w.heap.size,3,none⟩=some (.slice sa xs.length sc)∧w'.cell? ⟨w.heap.size,4,none⟩=some (.string fn)∧w'.cell? ⟨w.heap.size,5,none⟩=some (I fp)∧w'.cell? ⟨w.heap.size,6,none⟩=some (I fa)∧w'.cell? ⟨w.heap.size,7,none⟩=some (.string tn)∧w'.cell? ⟨w.heap.size,8,none⟩=some (I tp)∧w'.cell? ⟨w.heap.size,9,none⟩=some (I ta)) [10,11] (by kernel_rfl) hS0 ?_;refine ae 0 hS0 ?_;refine ae 1 hS0 ?_;refine ae 2 hS0 ?_;refine ae 6 hS0 ?_;refine ae 7 hS0 ?_;refine ah 3 ?_;intro K hK;(try simp only[Act.put,sLs])
  go_simp;refine(hfc _).mono ?_;rintro e v1 ⟨rfl,m1⟩;have kk1:=(New.refl (w.alloc (.cells #[.int .u8 2,.string name,.string tag,.slice sa xs.length sc,.string fn,I fp,I fa,.string tn,I tp,I ta,I at_] ItT))).drew.trans m1;have hS1:(fun w':World=>w'.cell? ⟨w.heap.size,1,none⟩=some (.string name)∧w'.cell? ⟨w.heap.size,2,none⟩=some (.string tag)∧w'.cell? ⟨w.heap.size,3,none⟩=some (.slice sa xs.length sc)∧w'.cell? ⟨w.heap.size,4,none⟩=some (.string fn)∧w'.cell? ⟨w.heap.size,5,none⟩=some (I fp)∧w'.cell? ⟨w.heap.size,6,none⟩=some (I fa)∧w'.cell? ⟨w.heap.size,7,none⟩=some (.string tn)∧w'.cell? ⟨w.heap.size,8,none⟩=some (I tp)∧w'.cell? ⟨w.heap.size,9,none⟩=some (I ta)) v1:=⟨New.cell kk1 c1,New.cell kk1 c2,New.cell kk1 c3,New.cell kk1 c4,New.cell kk1 c5,New.cell kk1 c6,New.cell kk1 c7,New.cell kk1 c8,New.cell kk1 c9⟩
  refine hK _ _ (fun _=>hS1) ?_;clear hK K;refine ae 4 hS1 ?_;refine ae 5 hS1 ?_;refine ah 8 ?_;intro K hK;(try simp only[Act.put,sLs])
  go_simp;refine(htc _).mono ?_;rintro e v2 ⟨rfl,m2⟩;have kk2:=kk1.trans m2;have hS2:(fun w':World=>w'.cell? ⟨w.heap.size,1,none⟩=some (.string name)∧w'.cell? ⟨w.heap.size,2,none⟩=some (.string tag)∧w'.cell? ⟨w.heap.size,3,none⟩=some (.slice sa xs.length sc)∧w'.cell? ⟨w.heap.size,4,none⟩=some (.string fn)∧w'.cell? ⟨w.heap.size,5,none⟩=some (I fp)∧w'.cell? ⟨w.heap.size,6,none⟩=some (I fa)∧w'.cell? ⟨w.heap.size,7,none⟩=some (.string tn)∧w'.cell? ⟨w.heap.size,8,none⟩=some (I tp)∧w'.cell? ⟨w.heap.size,9,none⟩=some (I ta)) v2:=⟨New.cell kk2 c1,New.cell kk2 c2,New.cell kk2 c3,New.cell kk2 c4,New.cell kk2 c5,New.cell kk2 c6,New.cell kk2 c7,New.cell kk2 c8,New.cell kk2 c9⟩
  refine hK _ _ (fun _=>hS2) ?_;clear hK K;refine ae 9 hS2 ?_;have hsz:=Nat.le_trans nb.size kk2.size;refine ah 10 ?_;intro K hK;refine iK rfl _ _ rfl w.heap.size none 0 [] 0 rfl (dm v2 _) S3 rfl (by omega) hsz ?_;intro a1 c1' w1 hown hk;have N1:=Lib.hid (New.keeps (nb.trans kk2) hk (fun k hk hx=>by obtain⟨y,hy,_⟩:=hx;cases hy));have HB1:=Lib.hid (dC (dm v2 w.heap.size) hk (Keeps.heap kk2 HBK.out (fun h=>h)));refine hK _ _ (fun hx=>by cases hx) ?_;clear hK K;refine ah 11 ?_;intro K hK;(try simp only[Act.put,sLs])
  go_simp;refine hK _ _ (fun hx=>by cases hx) ?_;clear hK K;refine aB (by kernel_rfl) ?_;(try simp only[Act.put,sLs])
  (try simp only[Exit.then])
  clear hS0 hS1 kk1 m1 hS2 kk2 m2 hk c0 c1 c2 c3 c4 c5 c6 c7 c8 c9 c10 hX;obtain⟨⟨c0,c1,c2,c3,c4,c5,c6,c7,c8,c9,c10⟩,-,hX⟩:=aN HB1.out;obtain⟨n0,hn0⟩:∃n,S3.size=n:=⟨_,rfl⟩
  (try simp only[Nat.zero_add,List.nil_append] at hown)
  (try simp only[Nat.zero_add])
  rw[hn0] at hown ⊢;obtain⟨L0,hL0⟩:∃L,S3.data.toList=L:=⟨_,rfl⟩
  rw[hL0] at hown;have hl0:L0.length=n0:=by rw[<-hL0,ai];exact hn0
  have hb0:n0<=87:=by omega
  have hLe:L0=bP (⟨2,name,tag,sa,sc,xs,fn,fp,fa,tn,tp,ta,at_⟩:SIt):=by rw[<-hL0];exact HLS.out
  have HOWN:=Lib.hid hown;clear hown hn0 hL0;have HLE:=Lib.hid hLe;have hnum0:(L0++ak (xs.take 0)).length=n0:=by simpa[ak] using hl0
  have hown0:eq w1 w.heap.size a1 n0 c1' (L0++ak (xs.take 0)):=by simpa[ak] using HOWN.out
  have HA:=Lib.hid (And.intro hown0 hnum0);have HNB:=Lib.hid (And.intro N1.out HB1.out);clear hown0 hnum0 hLe hl0 HOWN;go_wp2_with fail;clear c0 c1 c2 c3 c4 c5 c6 c7 c8 c9 c10 hX hxl hxd;go_loopw [3,4] (fun b i wr=>∃(k m:Nat) (ab:Option Addr) (cb:Nat),k<=xs.length∧i= .int .i64 k∧b= .slice ab m cb∧m<=1048700∧Hid (New w wr∧wr.heap[w.heap.size]? =some (.cells #[.int .u8 2,.string name,.string tag,.slice sa xs.length sc,.string fn,I fp,I fa,.string tn,I tp,I ta,I at_] ItT (0,0)))∧Hid (eq wr w.heap.size ab m cb (L0++ak (xs.take k))∧(L0++ak (xs.take k)).length=m)) (fun _ i _=>xs.length-(intOf i).toNat)
  case atStart=>exact⟨0,n0,a1,c1',by omega,rfl,rfl,by omega,HNB,HA⟩
  case round=>
    clear HA hb0;obtain⟨k,m,ab,cb,hk,rfl,rfl,hm,HNW,HO⟩:=hrel;obtain⟨⟨-,-,-,c3,-,-,-,-,-,-,-⟩,-,hXB⟩:=aN HNW.out.2;have hszr:w.heap.size<=wr.heap.size:=HNW.out.1.size;by_cases hc:k<xs.length∧m<=1048576
    · obtain⟨hk1,hm2⟩:=hc
      have hkI:(k:Int)<(xs.length:Int):=by omega
      have hkd:decide (k<xs.length)=true:=decide_eq_true hk1;have hmI:(m:Int)<=(1048576:Int):=by omega
      have hmd:decide (m<=1048576)=true:=decide_eq_true hm2;obtain⟨bb,off,hab,q0⟩:=(HX.out.new HNW.out.1) k (by simpa[Is] using hk1);have hv:(Is xs).getD k undef=I xs[k]:=by simp[Is,hk1]
      rw[hv] at q0;have hbw:=World.block_lt_of_cell? wr _ q0;have v01:=HD.out.xs _ (List.getElem_mem hk1);have hsucc:=cT xs k hk1;subst hab;generalize xs[k]=v at q0 v01 hsucc hv;have HSU:=Lib.hid hsucc;have hdg:=fun W=>eT W v v01.1 v01.2
      have hSz:=eY v v01;obtain⟨Sv,hSv⟩:∃S,cC v=S:=⟨_,rfl⟩
      rw[hSv] at hdg hSz;have hSl:Sv.data.toList=Lib.itoa v:=by rw[<-hSv];rfl
      obtain⟨Sw,hSw⟩:∃S,(⟨#[32]⟩:ByteArray)++Sv=S:=⟨_,rfl⟩
      have hSwz:Sw.size=1+Sv.size:=by rw[<-hSw,ByteArray.size_append];rfl
      have hSwl:Sw.data.toList=32::Lib.itoa v:=by rw[<-hSw,ByteArray.data_append,Array.toList_append,hSl];rfl
      have hadd:∀w:World,(Op.stringOp .add (⟨#[32]⟩:ByteArray) Sv).run Tryz.prog w= .ok (.string Sw) w:=fun w=>by rw[<-hSw];exact run_string_add_sum w _ _ (by show 1+Sv.size<=_;omega)
      have HSW:=Lib.hid hSwl;have hsw22:Sw.size<=22:=by omega
      clear hv hsucc hSv hSl hSw hSwl hSwz hSz;go_wp2_with fail;refine(hdg _).mono ?_;rintro e w2 ⟨rfl,n2⟩;have HO2:=Lib.hid (n2.owns HO.out.1);have hsz2:=Nat.le_trans hszr n2.size;have HN2:=Lib.hid (And.intro (HNW.out.1.trans n2) (Keeps.heap n2 HNW.out.2 (fun h=>h)));clear hdg n2 q0 hbw c3 hXB;go_wp2_with (at_builtin;refine wm rfl _ _ rfl w.heap.size ab cb (L0++ak (xs.take k)) m rfl HO2.out Sw rfl ?d1 hsz2 ?_);case d1=>omega
      intro a5 c5 w5 hown5 hk5;have HN5:=Lib.hid (And.intro (New.keeps HN2.out.1 hk5 (fun i hi hx=>by have:=(an HO2.out hx).1;omega)) (dC HO2.out hk5 HN2.out.2));have hmm:(L0++ak (xs.take (k+1))).length=m+Sw.size:=by rw[HSU.out,<-List.append_assoc,<-HSW.out,List.length_append,HO.out.2,ai]
      have HO5:Hid (eq w5 w.heap.size a5 (m+Sw.size) c5 (L0++ak (xs.take (k+1)))∧(L0++ak (xs.take (k+1))).length=m+Sw.size):=Lib.hid ⟨by rw[HSU.out,<-HSW.out];(try simp only[List.append_assoc] at hown5 ⊢);exact hown5,hmm⟩;clear hown5 hk5 hmm;go_wp2_with fail;go_roundw
      case rel=>exact⟨k+1,m+Sw.size,a5,c5,by omega,by go_num,by first|rfl|(congr 1),by omega,HN5,HO5⟩
      case measure=>simp[intOf];omega
    · have HF:Hid (∀(a:Option Addr) (c n:Nat) (w':World),m+2=n->eq w' w.heap.size a n c (L0++ak (xs.take k)++[59,10])->New w w'->PO (.returned (.slice a n c)) w'):=Lib.hid (fun a c n w' h1 h2 h3=>by
        rw[HPO.out];exact gA (x:=(⟨2,name,tag,sa,sc,xs,fn,fp,fa,tn,tp,ta,at_⟩:SIt)) HLE.out HO.out.2 hm (by show k=xs.length∨_;omega) h1 h2 h3)
      by_cases hk1:k<xs.length
      case' pos=>
        have hkI:(k:Int)<(xs.length:Int):=by omega
        have hkd:decide (k<xs.length)=true:=decide_eq_true hk1;have hmI:¬(m:Int)<=(1048576:Int):=by omega
        have hmd:decide (m<=1048576)=false:=decide_eq_false (by omega)
      case' neg=>
        have hkI:(xs.length:Int)<=(k:Int):=by omega
        have hkd:decide (k<xs.length)=false:=decide_eq_false hk1
      all_goals
        (clear hc
         go_wp2_with (at_builtin;refine wm rfl _ _ rfl w.heap.size ab cb (L0++ak (xs.take k)) m rfl HO.out.1 (⟨#[59,10]⟩:ByteArray) rfl (by show m+2<=_;omega) hszr ?_);intro a5 c5 w5 hown5 hk5;have HN5:=Lib.hid (New.keeps HNW.out.1 hk5 (fun i hi hx=>by have:=(an HO.out.1 hx).1;omega));go_wp2_with fail;(try go_ret)
         refine HF.out a5 c5 _ _ rfl ?_ HN5.out;(try simp only[List.append_assoc] at hown5 ⊢)
         exact hown5)
set_option maxRecDepth 100000 in
set_option maxHeartbeats 8000000 in
theorem nP (w:World) (name tag:ByteArray) (sa:Option Addr) (sc:Nat) (xs:List Int) (fn:ByteArray) (fp fa:Int) (tn:ByteArray) (tp ta at_:Int) (hx:am w sa (Is xs)) (hr:aP (⟨2,name,tag,sa,sc,xs,fn,fp,fa,tn,tp,ta,at_⟩:SIt)=true) (hd:IBnd (⟨2,name,tag,sa,sc,xs,fn,fp,fa,tn,tp,ta,at_⟩:SIt)) (hxs:xs≠[]):
    Calls Tryz.prog 82 #[.agg (itA (⟨2,name,tag,sa,sc,xs,fn,fp,fa,tn,tp,ta,at_⟩:SIt))] w (hJ w (⟨2,name,tag,sa,sc,xs,fn,fp,fa,tn,tp,ta,at_⟩:SIt)):=by
  have nb:New w (w.alloc (.cells #[.int .u8 2,.string name,.string tag,.slice sa xs.length sc,.string fn,I fp,I fa,.string tn,I tp,I ta,I at_] ItT)):=(New.refl w).alloc _;have hbk:(w.alloc (.cells #[.int .u8 2,.string name,.string tag,.slice sa xs.length sc,.string fn,I fp,I fa,.string tn,I tp,I ta,I at_] ItT)).heap[w.heap.size]? =some (.cells #[.int .u8 2,.string name,.string tag,.slice sa xs.length sc,.string fn,I fp,I fa,.string tn,I tp,I ta,I at_] ItT (0,0)):=heap_alloc_new w _;obtain⟨⟨c0,c1,c2,c3,c4,c5,c6,c7,c8,c9,c10⟩,-,hX⟩:=aN hbk;have HBK:=Lib.hid hbk;have HX:=Lib.hid hx;have HD:=Lib.hid hd;have HN:=Lib.hid nb;obtain⟨fp0,fp1⟩:=hd.p0;obtain⟨tp0,tp1⟩:=hd.p1;have hln:=hd.ln;simp only at fp0 fp1 tp0 tp1 hln;obtain⟨PO,hPO⟩:∃PO:Ending->World->Prop,PO=hJ w (⟨2,name,tag,sa,sc,xs,fn,fp,fa,tn,tp,ta,at_⟩:SIt):=⟨_,rfl⟩
  rw[<-hPO];have HPO:=Lib.hid hPO;replace hr:(bL name&&bL tag&&aM fn&&aM tn)=true:=hr;simp only[Bool.and_eq_true] at hr;have hhd:bP (⟨2,name,tag,sa,sc,xs,fn,fp,fa,tn,tp,ta,at_⟩:SIt)=[32,32,101,100,103,101,32]++aD fn fp++[32,45,62,32]++aD tn tp++(if xs=[] then[] else[32,119,105,116,104]):=rfl;clear hbk hx hd hPO;obtain⟨⟨⟨-,-⟩,hf⟩,ho⟩:=hr;have f16:=bh hf;have t16:=bh ho;rw[if_neg hxs] at hhd;have hxl:(0:Int)<(xs.length:Int):=by have:=List.length_pos_iff.2 hxs;omega
  have hxd:decide (0<xs.length)=true:=by exact decide_eq_true (List.length_pos_iff.2 hxs)
  clear hf ho hxs;have hfc:=fun W=>iG W fn fp fa (by omega) ⟨fp0,fp1⟩
  obtain⟨PF,hPF⟩:∃P:ByteArray,(⟨(aD fn fp).toArray⟩:ByteArray)=P:=⟨_,rfl⟩
  have lPF:PF.data.toList=aD fn fp:=by rw[<-hPF]
  have zPF:PF.size<=38:=by rw[<-ai,lPF];exact cn fn fp f16 fp0 fp1
  rw[hPF] at hfc;clear hPF;have htc:=fun W=>iG W tn tp ta (by omega) ⟨tp0,tp1⟩
  obtain⟨PT,hPT⟩:∃P:ByteArray,(⟨(aD tn tp).toArray⟩:ByteArray)=P:=⟨_,rfl⟩
  have lPT:PT.data.toList=aD tn tp:=by rw[<-hPT]
  have zPT:PT.size<=38:=by rw[<-ai,lPT];exact cn tn tp t16 tp0 tp1
  rw[hPT] at htc;clear hPT;obtain⟨S1,hS1⟩:∃X,(⟨#[32,32,101,100,103,101,32]⟩:ByteArray)++PF=X:=⟨_,rfl⟩
  have hzS1:S1.size<=45:=by
    have h1:((⟨#[32,32,101,100,103,101,32]⟩:ByteArray)).size<=7:=(by decide)
    have h2:(PF).size<=38:=zPF;rw[<-hS1,ByteArray.size_append];omega
  have lS1:S1.data.toList=((⟨#[32,32,101,100,103,101,32]⟩:ByteArray)).data.toList++(PF).data.toList:=by rw[<-hS1,ByteArray.data_append,Array.toList_append]
  have addS1:∀w:World,(Op.stringOp .add ((⟨#[32,32,101,100,103,101,32]⟩:ByteArray)) (PF)).run Tryz.prog w= .ok (.string S1) w:=fun w=>by
    have h1:((⟨#[32,32,101,100,103,101,32]⟩:ByteArray)).size<=7:=(by decide)
    have h2:(PF).size<=38:=zPF;rw[<-hS1];exact run_string_add_sum w _ _ (by omega)
  clear hS1;obtain⟨S2,hS2⟩:∃X,S1++(⟨#[32,45,62,32]⟩:ByteArray)=X:=⟨_,rfl⟩
  have hzS2:S2.size<=49:=by
    have h1:(S1).size<=45:=hzS1;have h2:((⟨#[32,45,62,32]⟩:ByteArray)).size<=4:=(by decide)
    rw[<-hS2,ByteArray.size_append];omega
  have lS2:S2.data.toList=(S1).data.toList++((⟨#[32,45,62,32]⟩:ByteArray)).data.toList:=by rw[<-hS2,ByteArray.data_append,Array.toList_append]
  have addS2:∀w:World,(Op.stringOp .add (S1) ((⟨#[32,45,62,32]⟩:ByteArray))).run Tryz.prog w= .ok (.string S2) w:=fun w=>by
    have h1:(S1).size<=45:=hzS1;have h2:((⟨#[32,45,62,32]⟩:ByteArray)).size<=4:=(by decide)
    rw[<-hS2];exact run_string_add_sum w _ _ (by omega)
  clear hS2;obtain⟨S3,hS3⟩:∃X,S2++PT=X:=⟨_,rfl⟩
  have hzS3:S3.size<=87:=by
    have h1:(S2).size<=49:=hzS2;have h2:(PT).size<=38:=zPT;rw[<-hS3,ByteArray.size_append];omega
  have lS3:S3.data.toList=(S2).data.toList++(PT).data.toList:=by rw[<-hS3,ByteArray.data_append,Array.toList_append]
  have addS3:∀w:World,(Op.stringOp .add (S2) (PT)).run Tryz.prog w= .ok (.string S3) w:=fun w=>by
    have h1:(S2).size<=49:=hzS2;have h2:(PT).size<=38:=zPT;rw[<-hS3];exact run_string_add_sum w _ _ (by omega)
  clear hS3;have hls:S3.data.toList++[32,119,105,116,104]=bP (⟨2,name,tag,sa,sc,xs,fn,fp,fa,tn,tp,ta,at_⟩:SIt):=by rw[hhd,lS3,lS2,lS1,lPF,lPT];(try simp)
  have HLS:=Lib.hid hls;clear hls hhd;clear lS1 lS2 lS3 lPF lPT;go_enter Tryz.func82,Tryz.ntmps82;go_wp2_with fail;have hS0:(fun w':World=>w'.cell? ⟨w.heap.size,1,none⟩=some (.string name)∧w'.cell? ⟨w.heap.size,2,none⟩=some (.string tag)∧w'.cell? ⟨w.heap.size,3,none⟩=some (.slice sa xs.length sc)∧w'.cell? ⟨w.heap.size,4,none⟩=some (.string fn)∧w'.cell? ⟨w.heap.size,5,none⟩=some (I fp)∧w'.cell? ⟨w.heap.size,6,none⟩=some (I fa)∧w'.cell? ⟨w.heap.size,7,none⟩=some (.string tn)∧w'.cell? ⟨w.heap.size,8,none⟩=some (I tp)∧w'.cell? ⟨w.heap.size,9,none⟩=some (I ta)) (w.alloc (.cells #[.int .u8 2,.string name,.string tag,.slice sa xs.length sc,.string fn,I fp,I fa,.string tn,I tp,I ta,I at_] ItT)).drew:=⟨New.cell (New.refl (w.alloc (.cells #[.int .u8 2,.string name,.string tag,.slice sa xs.length sc,.string fn,I fp,I fa,.string tn,I tp,I ta,I at_] ItT))).drew c1,New.cell (New.refl (w.alloc (.cells #[.int .u8 2,.string name,.string tag,.slice sa xs.length sc,.string fn,I fp,I fa,.string tn,I tp,I ta,I at_] ItT))).drew c2,New.cell (New.refl (w.alloc (.cells #[.int .u8 2,.string name,.string tag,.slice sa xs.length sc,.string fn,I fp,I fa,.string tn,I tp,I ta,I at_] ItT))).drew c3,New.cell (New.refl (w.alloc (.cells #[.int .u8 2,.string name,.string tag,.slice sa xs.length sc,.string fn,I fp,I fa,.string tn,I tp,I ta,I at_] ItT))).drew c4,New.cell (New.refl (w.alloc (.cells #[.int .u8 2,.string name,.string tag,.slice sa xs.length sc,.string fn,I fp,I fa,.string tn,I tp,I ta,I at_] ItT))).drew c5,New.cell (New.refl (w.alloc (.cells #[.int .u8 2,.string name,.string tag,.slice sa xs.length sc,.string fn,I fp,I fa,.string tn,I tp,I ta,I at_] ItT))).drew c6,New.cell (New.refl (w.alloc (.cells #[.int .u8 2,.string name,.string tag,.slice sa xs.length sc,.string fn,I fp,I fa,.string tn,I tp,I ta,I at_] ItT))).drew c7,New.cell (New.refl (w.alloc (.cells #[.int .u8 2,.string name,.string tag,.slice sa xs.length sc,.string fn,I fp,I fa,.string tn,I tp,I ta,I at_] ItT))).drew c8,New.cell (New.refl (w.alloc (.cells #[.int .u8 2,.string name,.string tag,.slice sa xs.length sc,.string fn,I fp,I fa,.string tn,I tp,I ta,I at_] ItT))).drew c9⟩
  refine ar (fun w':World=>w'.cell? ⟨w.heap.size,1,none⟩=some (.string name)∧w'.cell? ⟨w.heap.size,2,none⟩=some (.string tag)∧w'.cell? ⟨w.heap.size,3,none⟩=some (.slice sa xs.length sc)∧w'.cell? ⟨w.heap.size,4,none⟩=some (.string fn)∧w'.cell? ⟨w.heap.size,5,none⟩=some (I fp)∧w'.cell? ⟨w.heap.size,6,none⟩=some (I fa)∧w'.cell? ⟨w.heap.size,7,none⟩=some (.string tn)∧w'.cell? ⟨w.heap.size,8,none⟩=some (I tp)∧w'.cell? ⟨w.heap.size,9,none⟩=some (I ta)) [10,11] (by kernel_rfl) hS0 ?_;refine ae 0 hS0 ?_;refine ae 1 hS0 ?_;refine ae 2 hS0 ?_;refine ae 6 hS0 ?_;refine ae 7 hS0 ?_;refine ah 3 ?_;intro K hK;(try simp only[Act.put,sLs])
  go_simp;refine(hfc _).mono ?_;rintro e v1 ⟨rfl,m1⟩;have kk1:=(New.refl (w.alloc (.cells #[.int .u8 2,.string name,.string tag,.slice sa xs.length sc,.string fn,I fp,I fa,.string tn,I tp,I ta,I at_] ItT))).drew.trans m1;have hS1:(fun w':World=>w'.cell? ⟨w.heap.size,1,none⟩=some (.string name)∧w'.cell? ⟨w.heap.size,2,none⟩=some (.string tag)∧w'.cell? ⟨w.heap.size,3,none⟩=some (.slice sa xs.length sc)∧w'.cell? ⟨w.heap.size,4,none⟩=some (.string fn)∧w'.cell? ⟨w.heap.size,5,none⟩=some (I fp)∧w'.cell? ⟨w.heap.size,6,none⟩=some (I fa)∧w'.cell? ⟨w.heap.size,7,none⟩=some (.string tn)∧w'.cell? ⟨w.heap.size,8,none⟩=some (I tp)∧w'.cell? ⟨w.heap.size,9,none⟩=some (I ta)) v1:=⟨New.cell kk1 c1,New.cell kk1 c2,New.cell kk1 c3,New.cell kk1 c4,New.cell kk1 c5,New.cell kk1 c6,New.cell kk1 c7,New.cell kk1 c8,New.cell kk1 c9⟩
  refine hK _ _ (fun _=>hS1) ?_;clear hK K;refine ae 4 hS1 ?_;refine ae 5 hS1 ?_;refine ah 8 ?_;intro K hK;(try simp only[Act.put,sLs])
  go_simp;refine(htc _).mono ?_;rintro e v2 ⟨rfl,m2⟩;have kk2:=kk1.trans m2;have hS2:(fun w':World=>w'.cell? ⟨w.heap.size,1,none⟩=some (.string name)∧w'.cell? ⟨w.heap.size,2,none⟩=some (.string tag)∧w'.cell? ⟨w.heap.size,3,none⟩=some (.slice sa xs.length sc)∧w'.cell? ⟨w.heap.size,4,none⟩=some (.string fn)∧w'.cell? ⟨w.heap.size,5,none⟩=some (I fp)∧w'.cell? ⟨w.heap.size,6,none⟩=some (I fa)∧w'.cell? ⟨w.heap.size,7,none⟩=some (.string tn)∧w'.cell? ⟨w.heap.size,8,none⟩=some (I tp)∧w'.cell? ⟨w.heap.size,9,none⟩=some (I ta)) v2:=⟨New.cell kk2 c1,New.cell kk2 c2,New.cell kk2 c3,New.cell kk2 c4,New.cell kk2 c5,New.cell kk2 c6,New.cell kk2 c7,New.cell kk2 c8,New.cell kk2 c9⟩
  refine hK _ _ (fun _=>hS2) ?_;clear hK K;refine ae 9 hS2 ?_;have hsz:=Nat.le_trans nb.size kk2.size;refine ah 10 ?_;intro K hK;refine iK rfl _ _ rfl w.heap.size none 0 [] 0 rfl (dm v2 _) S3 rfl (by omega) hsz ?_;intro a1 c1' w1 hown hk;have N1:=Lib.hid (New.keeps (nb.trans kk2) hk (fun k hk hx=>by obtain⟨y,hy,_⟩:=hx;cases hy));have HB1:=Lib.hid (dC (dm v2 w.heap.size) hk (Keeps.heap kk2 HBK.out (fun h=>h)));refine hK _ _ (fun hx=>by cases hx) ?_;clear hK K;refine ah 11 ?_;intro K hK;(try simp only[Act.put,sLs])
  go_simp;refine hK _ _ (fun hx=>by cases hx) ?_;clear hK K;refine aB (by kernel_rfl) ?_;(try simp only[Act.put,sLs])
  (try simp only[Exit.then])
  clear hS0 hS1 kk1 m1 hS2 kk2 m2 hk c0 c1 c2 c3 c4 c5 c6 c7 c8 c9 c10 hX;obtain⟨⟨c0,c1,c2,c3,c4,c5,c6,c7,c8,c9,c10⟩,-,hX⟩:=aN HB1.out;obtain⟨n0,hn0⟩:∃n,S3.size=n:=⟨_,rfl⟩
  (try simp only[Nat.zero_add,List.nil_append] at hown)
  (try simp only[Nat.zero_add])
  rw[hn0] at hown ⊢;obtain⟨L0,hL0⟩:∃L,S3.data.toList=L:=⟨_,rfl⟩
  rw[hL0] at hown;have hl0:L0.length=n0:=by rw[<-hL0,ai];exact hn0
  have hb0:n0<=87:=by omega
  have HOWN:=Lib.hid hown;clear hown hn0;have hszw:w.heap.size<=w1.heap.size:=N1.out.size;go_wp2_with (at_builtin;refine wm rfl _ _ rfl w.heap.size a1 c1' L0 n0 rfl HOWN.out (⟨#[32,119,105,116,104]⟩:ByteArray) rfl (by show n0+5<=_;omega) hszw ?_);intro a9 c9' w9 hown9 hk9;have N9:=Lib.hid (New.keeps N1.out hk9 (fun i hi hx=>by have:=(an HOWN.out hx).1;omega));have HB9:=Lib.hid (dC HOWN.out hk9 HB1.out);clear N1 HB1 HOWN c0 c1 c2 c3 c4 c5 c6 c7 c8 c9 c10 hX hk9;obtain⟨⟨c0,c1,c2,c3,c4,c5,c6,c7,c8,c9,c10⟩,-,hX⟩:=aN HB9.out;have hown8:eq w9 w.heap.size a9 (n0+5) c9' (L0++[32,119,105,116,104]):=by simpa using hown9
  clear hown9;(try simp only[show(⟨#[32,119,105,116,104]⟩:ByteArray).size=5 from rfl])
  obtain⟨L9,hL9⟩:∃L,L0++[32,119,105,116,104]=L:=⟨_,rfl⟩
  obtain⟨n9,hn9⟩:∃n,n0+5=n:=⟨_,rfl⟩
  rw[hL9,hn9] at hown8;rw[hn9];have HOW9:=Lib.hid hown8;clear hown8;have hl9:L9.length=n9:=by rw[<-hL9,List.length_append,hl0,<-hn9];rfl
  have hLe:L9=bP (⟨2,name,tag,sa,sc,xs,fn,fp,fa,tn,tp,ta,at_⟩:SIt):=by rw[<-hL9,<-hL0];exact HLS.out
  have hb9:n9<=92:=by omega
  clear hL9 hn9 hL0 hl0 hb0;have HLE:=Lib.hid hLe;have hnum0:(L9++ak (xs.take 0)).length=n9:=by simpa[ak] using hl9
  have hown9:eq w9 w.heap.size a9 n9 c9' (L9++ak (xs.take 0)):=by simpa[ak] using HOW9.out
  have HA:=Lib.hid (And.intro hown9 hnum0);have HNB:=Lib.hid (And.intro N9.out HB9.out);clear hown9 hnum0 hLe hl9 HOW9;go_wp2_with fail;clear c0 c1 c2 c3 c4 c5 c6 c7 c8 c9 c10 hX hxl hxd;go_loopw [3,4] (fun b i wr=>∃(k m:Nat) (ab:Option Addr) (cb:Nat),k<=xs.length∧i= .int .i64 k∧b= .slice ab m cb∧m<=1048700∧Hid (New w wr∧wr.heap[w.heap.size]? =some (.cells #[.int .u8 2,.string name,.string tag,.slice sa xs.length sc,.string fn,I fp,I fa,.string tn,I tp,I ta,I at_] ItT (0,0)))∧Hid (eq wr w.heap.size ab m cb (L9++ak (xs.take k))∧(L9++ak (xs.take k)).length=m)) (fun _ i _=>xs.length-(intOf i).toNat)
  case atStart=>exact⟨0,n9,a9,c9',by omega,rfl,rfl,by omega,HNB,HA⟩
  case round=>
    clear HA hb9;obtain⟨k,m,ab,cb,hk,rfl,rfl,hm,HNW,HO⟩:=hrel;obtain⟨⟨-,-,-,c3,-,-,-,-,-,-,-⟩,-,hXB⟩:=aN HNW.out.2;have hszr:w.heap.size<=wr.heap.size:=HNW.out.1.size;by_cases hc:k<xs.length∧m<=1048576
    · obtain⟨hk1,hm2⟩:=hc
      have hkI:(k:Int)<(xs.length:Int):=by omega
      have hkd:decide (k<xs.length)=true:=decide_eq_true hk1;have hmI:(m:Int)<=(1048576:Int):=by omega
      have hmd:decide (m<=1048576)=true:=decide_eq_true hm2;obtain⟨bb,off,hab,q0⟩:=(HX.out.new HNW.out.1) k (by simpa[Is] using hk1);have hv:(Is xs).getD k undef=I xs[k]:=by simp[Is,hk1]
      rw[hv] at q0;have hbw:=World.block_lt_of_cell? wr _ q0;have v01:=HD.out.xs _ (List.getElem_mem hk1);have hsucc:=cT xs k hk1;subst hab;generalize xs[k]=v at q0 v01 hsucc hv;have HSU:=Lib.hid hsucc;have hdg:=fun W=>eT W v v01.1 v01.2
      have hSz:=eY v v01;obtain⟨Sv,hSv⟩:∃S,cC v=S:=⟨_,rfl⟩
      rw[hSv] at hdg hSz;have hSl:Sv.data.toList=Lib.itoa v:=by rw[<-hSv];rfl
      obtain⟨Sw,hSw⟩:∃S,(⟨#[32]⟩:ByteArray)++Sv=S:=⟨_,rfl⟩
      have hSwz:Sw.size=1+Sv.size:=by rw[<-hSw,ByteArray.size_append];rfl
      have hSwl:Sw.data.toList=32::Lib.itoa v:=by rw[<-hSw,ByteArray.data_append,Array.toList_append,hSl];rfl
      have hadd:∀w:World,(Op.stringOp .add (⟨#[32]⟩:ByteArray) Sv).run Tryz.prog w= .ok (.string Sw) w:=fun w=>by rw[<-hSw];exact run_string_add_sum w _ _ (by show 1+Sv.size<=_;omega)
      have HSW:=Lib.hid hSwl;have hsw22:Sw.size<=22:=by omega
      clear hv hsucc hSv hSl hSw hSwl hSwz hSz;go_wp2_with fail;refine(hdg _).mono ?_;rintro e w2 ⟨rfl,n2⟩;have HO2:=Lib.hid (n2.owns HO.out.1);have hsz2:=Nat.le_trans hszr n2.size;have HN2:=Lib.hid (And.intro (HNW.out.1.trans n2) (Keeps.heap n2 HNW.out.2 (fun h=>h)));clear hdg n2 q0 hbw c3 hXB;go_wp2_with (at_builtin;refine wm rfl _ _ rfl w.heap.size ab cb (L9++ak (xs.take k)) m rfl HO2.out Sw rfl ?d1 hsz2 ?_);case d1=>omega
      intro a5 c5 w5 hown5 hk5;have HN5:=Lib.hid (And.intro (New.keeps HN2.out.1 hk5 (fun i hi hx=>by have:=(an HO2.out hx).1;omega)) (dC HO2.out hk5 HN2.out.2));have hmm:(L9++ak (xs.take (k+1))).length=m+Sw.size:=by rw[HSU.out,<-List.append_assoc,<-HSW.out,List.length_append,HO.out.2,ai]
      have HO5:Hid (eq w5 w.heap.size a5 (m+Sw.size) c5 (L9++ak (xs.take (k+1)))∧(L9++ak (xs.take (k+1))).length=m+Sw.size):=Lib.hid ⟨by rw[HSU.out,<-HSW.out];(try simp only[List.append_assoc] at hown5 ⊢);exact hown5,hmm⟩;clear hown5 hk5 hmm;go_wp2_with fail;go_roundw
      case rel=>exact⟨k+1,m+Sw.size,a5,c5,by omega,by go_num,by first|rfl|(congr 1),by omega,HN5,HO5⟩
      case measure=>simp[intOf];omega
    · have HF:Hid (∀(a:Option Addr) (c n:Nat) (w':World),m+2=n->eq w' w.heap.size a n c (L9++ak (xs.take k)++[59,10])->New w w'->PO (.returned (.slice a n c)) w'):=Lib.hid (fun a c n w' h1 h2 h3=>by
        rw[HPO.out];exact gA (x:=(⟨2,name,tag,sa,sc,xs,fn,fp,fa,tn,tp,ta,at_⟩:SIt)) HLE.out HO.out.2 hm (by show k=xs.length∨_;omega) h1 h2 h3)
      by_cases hk1:k<xs.length
      case' pos=>
        have hkI:(k:Int)<(xs.length:Int):=by omega
        have hkd:decide (k<xs.length)=true:=decide_eq_true hk1;have hmI:¬(m:Int)<=(1048576:Int):=by omega
        have hmd:decide (m<=1048576)=false:=decide_eq_false (by omega)
      case' neg=>
        have hkI:(xs.length:Int)<=(k:Int):=by omega
        have hkd:decide (k<xs.length)=false:=decide_eq_false hk1
      all_goals
        (clear hc
         go_wp2_with (at_builtin;refine wm rfl _ _ rfl w.heap.size ab cb (L9++ak (xs.take k)) m rfl HO.out.1 (⟨#[59,10]⟩:ByteArray) rfl (by show m+2<=_;omega) hszr ?_);intro a5 c5 w5 hown5 hk5;have HN5:=Lib.hid (New.keeps HNW.out.1 hk5 (fun i hi hx=>by have:=(an HO.out.1 hx).1;omega));go_wp2_with fail;(try go_ret)
         refine HF.out a5 c5 _ _ rfl ?_ HN5.out;(try simp only[List.append_assoc] at hown5 ⊢)
         exact hown5)
set_option maxRecDepth 100000 in
set_option maxHeartbeats 8000000 in
theorem sX (w:World) (name tag:ByteArray) (sa:Option Addr) (sc:Nat) (xs:List Int) (fn:ByteArray) (fp fa:Int) (tn:ByteArray) (tp ta at_:Int) (hx:am w sa (Is xs)) (hr:aP (⟨3,name,tag,sa,sc,xs,fn,fp,fa,tn,tp,ta,at_⟩:SIt)=true) (hd:IBnd (⟨3,name,tag,sa,sc,xs,fn,fp,fa,tn,tp,ta,at_⟩:SIt)):
    Calls Tryz.prog 82 #[.agg (itA (⟨3,name,tag,sa,sc,xs,fn,fp,fa,tn,tp,ta,at_⟩:SIt))] w (hJ w (⟨3,name,tag,sa,sc,xs,fn,fp,fa,tn,tp,ta,at_⟩:SIt)):=by
  have nb:New w (w.alloc (.cells #[.int .u8 3,.string name,.string tag,.slice sa xs.length sc,.string fn,I fp,I fa,.string tn,I tp,I ta,I at_] ItT)):=(New.refl w).alloc _;have hbk:(w.alloc (.cells #[.int .u8 3,.string name,.string tag,.slice sa xs.length sc,.string fn,I fp,I fa,.string tn,I tp,I ta,I at_] ItT)).heap[w.heap.size]? =some (.cells #[.int .u8 3,.string name,.string tag,.slice sa xs.length sc,.string fn,I fp,I fa,.string tn,I tp,I ta,I at_] ItT (0,0)):=heap_alloc_new w _;obtain⟨⟨c0,c1,c2,c3,c4,c5,c6,c7,c8,c9,c10⟩,-,hX⟩:=aN hbk;have HBK:=Lib.hid hbk;have HX:=Lib.hid hx;have HD:=Lib.hid hd;have HN:=Lib.hid nb;obtain⟨fp0,fp1⟩:=hd.p0;obtain⟨tp0,tp1⟩:=hd.p1;have hln:=hd.ln;simp only at fp0 fp1 tp0 tp1 hln;obtain⟨PO,hPO⟩:∃PO:Ending->World->Prop,PO=hJ w (⟨3,name,tag,sa,sc,xs,fn,fp,fa,tn,tp,ta,at_⟩:SIt):=⟨_,rfl⟩
  rw[<-hPO];have HPO:=Lib.hid hPO;replace hr:(aM name&&bL tag&&(xs.length==0)&&de fn fp&&aM tn)=true:=hr;simp only[Bool.and_eq_true] at hr;have hhd:bP (⟨3,name,tag,sa,sc,xs,fn,fp,fa,tn,tp,ta,at_⟩:SIt)=[32,32,105,110,32]++name.data.toList++[32,45,62,32]++aD tn tp:=rfl;clear hbk hx hd hPO;obtain⟨⟨⟨⟨hn,-⟩,-⟩,-⟩,ho⟩:=hr;have n16:=bh hn;have t16:=bh ho;clear hn ho;have htc:=fun W=>iG W tn tp ta (by omega) ⟨tp0,tp1⟩
  obtain⟨PT,hPT⟩:∃P:ByteArray,(⟨(aD tn tp).toArray⟩:ByteArray)=P:=⟨_,rfl⟩
  have lPT:PT.data.toList=aD tn tp:=by rw[<-hPT]
  have zPT:PT.size<=38:=by rw[<-ai,lPT];exact cn tn tp t16 tp0 tp1
  rw[hPT] at htc;clear hPT;obtain⟨S1,hS1⟩:∃X,(⟨#[32,32,105,110,32]⟩:ByteArray)++name=X:=⟨_,rfl⟩
  have hzS1:S1.size<=21:=by
    have h1:((⟨#[32,32,105,110,32]⟩:ByteArray)).size<=5:=(by decide)
    have h2:(name).size<=16:=n16;rw[<-hS1,ByteArray.size_append];omega
  have lS1:S1.data.toList=((⟨#[32,32,105,110,32]⟩:ByteArray)).data.toList++(name).data.toList:=by rw[<-hS1,ByteArray.data_append,Array.toList_append]
  have addS1:∀w:World,(Op.stringOp .add ((⟨#[32,32,105,110,32]⟩:ByteArray)) (name)).run Tryz.prog w= .ok (.string S1) w:=fun w=>by
    have h1:((⟨#[32,32,105,110,32]⟩:ByteArray)).size<=5:=(by decide)
    have h2:(name).size<=16:=n16;rw[<-hS1];exact run_string_add_sum w _ _ (by omega)
  clear hS1;obtain⟨S2,hS2⟩:∃X,S1++(⟨#[32,45,62,32]⟩:ByteArray)=X:=⟨_,rfl⟩
  have hzS2:S2.size<=25:=by
    have h1:(S1).size<=21:=hzS1;have h2:((⟨#[32,45,62,32]⟩:ByteArray)).size<=4:=(by decide)
    rw[<-hS2,ByteArray.size_append];omega
  have lS2:S2.data.toList=(S1).data.toList++((⟨#[32,45,62,32]⟩:ByteArray)).data.toList:=by rw[<-hS2,ByteArray.data_append,Array.toList_append]
  have addS2:∀w:World,(Op.stringOp .add (S1) ((⟨#[32,45,62,32]⟩:ByteArray))).run Tryz.prog w= .ok (.string S2) w:=fun w=>by
    have h1:(S1).size<=21:=hzS1;have h2:((⟨#[32,45,62,32]⟩:ByteArray)).size<=4:=(by decide)
    rw[<-hS2];exact run_string_add_sum w _ _ (by omega)
  clear hS2;obtain⟨S3,hS3⟩:∃X,S2++PT=X:=⟨_,rfl⟩
  have hzS3:S3.size<=63:=by
    have h1:(S2).size<=25:=hzS2;have h2:(PT).size<=38:=zPT;rw[<-hS3,ByteArray.size_append];omega
  have lS3:S3.data.toList=(S2).data.toList++(PT).data.toList:=by rw[<-hS3,ByteArray.data_append,Array.toList_append]
  have addS3:∀w:World,(Op.stringOp .add (S2) (PT)).run Tryz.prog w= .ok (.string S3) w:=fun w=>by
    have h1:(S2).size<=25:=hzS2;have h2:(PT).size<=38:=zPT;rw[<-hS3];exact run_string_add_sum w _ _ (by omega)
  clear hS3;have hls:S3.data.toList=bP (⟨3,name,tag,sa,sc,xs,fn,fp,fa,tn,tp,ta,at_⟩:SIt):=by rw[hhd];rw[lS3,lS2,lS1,lPT]
  have HLS:=Lib.hid hls;clear hls hhd;clear lS1 lS2 lS3 lPT;go_enter Tryz.func82,Tryz.ntmps82;go_wp2_with fail;have hS0:(fun w':World=>w'.cell? ⟨w.heap.size,1,none⟩=some (.string name)∧w'.cell? ⟨w.heap.size,2,none⟩=some (.string tag)∧w'.cell? ⟨w.heap.size,3,none⟩=some (.slice sa xs.length sc)∧w'.cell? ⟨w.heap.size,4,none⟩=some (.string fn)∧w'.cell? ⟨w.heap.size,5,none⟩=some (I fp)∧w'.cell? ⟨w.heap.size,6,none⟩=some (I fa)∧w'.cell? ⟨w.heap.size,7,none⟩=some (.string tn)∧w'.cell? ⟨w.heap.size,8,none⟩=some (I tp)∧w'.cell? ⟨w.heap.size,9,none⟩=some (I ta)) (w.alloc (.cells #[.int .u8 3,.string name,.string tag,.slice sa xs.length sc,.string fn,I fp,I fa,.string tn,I tp,I ta,I at_] ItT)).drew:=⟨New.cell (New.refl (w.alloc (.cells #[.int .u8 3,.string name,.string tag,.slice sa xs.length sc,.string fn,I fp,I fa,.string tn,I tp,I ta,I at_] ItT))).drew c1,New.cell (New.refl (w.alloc (.cells #[.int .u8 3,.string name,.string tag,.slice sa xs.length sc,.string fn,I fp,I fa,.string tn,I tp,I ta,I at_] ItT))).drew c2,New.cell (New.refl (w.alloc (.cells #[.int .u8 3,.string name,.string tag,.slice sa xs.length sc,.string fn,I fp,I fa,.string tn,I tp,I ta,I at_] ItT))).drew c3,New.cell (New.refl (w.alloc (.cells #[.int .u8 3,.string name,.string tag,.slice sa xs.length sc,.string fn,I fp,I fa,.string tn,I tp,I ta,I at_] ItT))).drew c4,New.cell (New.refl (w.alloc (.cells #[.int .u8 3,.string name,.string tag,.slice sa xs.length sc,.string fn,I fp,I fa,.string tn,I tp,I ta,I at_] ItT))).drew c5,New.cell (New.refl (w.alloc (.cells #[.int .u8 3,.string name,.string tag,.slice sa xs.length sc,.string fn,I fp,I fa,.string tn,I tp,I ta,I at_] ItT))).drew c6,New.cell (New.refl (w.alloc (.cells #[.int .u8 3,.string name,.string tag,.slice sa xs.length sc,.string fn,I fp,I fa,.string tn,I tp,I ta,I at_] ItT))).drew c7,New.cell (New.refl (w.alloc (.cells #[.int .u8 3,.string name,.string tag,.slice sa xs.length sc,.string fn,I fp,I fa,.string tn,I tp,I ta,I at_] ItT))).drew c8,New.cell (New.refl (w.alloc (.cells #[.int .u8 3,.string name,.string tag,.slice sa xs.length sc,.string fn,I fp,I fa,.string tn,I tp,I ta,I at_] ItT))).drew c9⟩
  refine ar (fun w':World=>w'.cell? ⟨w.heap.size,1,none⟩=some (.string name)∧w'.cell? ⟨w.heap.size,2,none⟩=some (.string tag)∧w'.cell? ⟨w.heap.size,3,none⟩=some (.slice sa xs.length sc)∧w'.cell? ⟨w.heap.size,4,none⟩=some (.string fn)∧w'.cell? ⟨w.heap.size,5,none⟩=some (I fp)∧w'.cell? ⟨w.heap.size,6,none⟩=some (I fa)∧w'.cell? ⟨w.heap.size,7,none⟩=some (.string tn)∧w'.cell? ⟨w.heap.size,8,none⟩=some (I tp)∧w'.cell? ⟨w.heap.size,9,none⟩=some (I ta)) [9,10] (by kernel_rfl) hS0 ?_;refine ae 0 hS0 ?_;refine ae 1 hS0 ?_;refine ae 2 hS0 ?_;refine ae 3 hS0 ?_;refine ae 4 hS0 ?_;refine ae 5 hS0 ?_;refine ae 6 hS0 ?_;refine ah 7 ?_;intro K hK;(try simp only[Act.put,sLs])
  go_simp;refine(htc _).mono ?_;rintro e v1 ⟨rfl,m1⟩;have kk1:=(New.refl (w.alloc (.cells #[.int .u8 3,.string name,.string tag,.slice sa xs.length sc,.string fn,I fp,I fa,.string tn,I tp,I ta,I at_] ItT))).drew.trans m1;have hS1:(fun w':World=>w'.cell? ⟨w.heap.size,1,none⟩=some (.string name)∧w'.cell? ⟨w.heap.size,2,none⟩=some (.string tag)∧w'.cell? ⟨w.heap.size,3,none⟩=some (.slice sa xs.length sc)∧w'.cell? ⟨w.heap.size,4,none⟩=some (.string fn)∧w'.cell? ⟨w.heap.size,5,none⟩=some (I fp)∧w'.cell? ⟨w.heap.size,6,none⟩=some (I fa)∧w'.cell? ⟨w.heap.size,7,none⟩=some (.string tn)∧w'.cell? ⟨w.heap.size,8,none⟩=some (I tp)∧w'.cell? ⟨w.heap.size,9,none⟩=some (I ta)) v1:=⟨New.cell kk1 c1,New.cell kk1 c2,New.cell kk1 c3,New.cell kk1 c4,New.cell kk1 c5,New.cell kk1 c6,New.cell kk1 c7,New.cell kk1 c8,New.cell kk1 c9⟩
  refine hK _ _ (fun _=>hS1) ?_;clear hK K;refine ae 8 hS1 ?_;have hsz:=Nat.le_trans nb.size kk1.size;refine ah 9 ?_;intro K hK;refine iK rfl _ _ rfl w.heap.size none 0 [] 0 rfl (dm v1 _) S3 rfl (by omega) hsz ?_;intro a1 c1' w1 hown hk;have N1:=Lib.hid (New.keeps (nb.trans kk1) hk (fun k hk hx=>by obtain⟨y,hy,_⟩:=hx;cases hy));have HB1:=Lib.hid (dC (dm v1 w.heap.size) hk (Keeps.heap kk1 HBK.out (fun h=>h)));refine hK _ _ (fun hx=>by cases hx) ?_;clear hK K;refine ah 10 ?_;intro K hK;(try simp only[Act.put,sLs])
  go_simp;refine hK _ _ (fun hx=>by cases hx) ?_;clear hK K;refine aB (by kernel_rfl) ?_;(try simp only[Act.put,sLs])
  (try simp only[Exit.then])
  clear hS0 hS1 kk1 m1 hk c0 c1 c2 c3 c4 c5 c6 c7 c8 c9 c10 hX;obtain⟨⟨c0,c1,c2,c3,c4,c5,c6,c7,c8,c9,c10⟩,-,hX⟩:=aN HB1.out;obtain⟨n0,hn0⟩:∃n,S3.size=n:=⟨_,rfl⟩
  (try simp only[Nat.zero_add,List.nil_append] at hown)
  (try simp only[Nat.zero_add])
  rw[hn0] at hown ⊢;obtain⟨L0,hL0⟩:∃L,S3.data.toList=L:=⟨_,rfl⟩
  rw[hL0] at hown;have hl0:L0.length=n0:=by rw[<-hL0,ai];exact hn0
  have hb0:n0<=63:=by omega
  have hLe:L0=bP (⟨3,name,tag,sa,sc,xs,fn,fp,fa,tn,tp,ta,at_⟩:SIt):=by rw[<-hL0];exact HLS.out
  have HOWN:=Lib.hid hown;clear hown hn0 hL0;have HLE:=Lib.hid hLe;have hnum0:(L0++ak (xs.take 0)).length=n0:=by simpa[ak] using hl0
  have hown0:eq w1 w.heap.size a1 n0 c1' (L0++ak (xs.take 0)):=by simpa[ak] using HOWN.out
  have HA:=Lib.hid (And.intro hown0 hnum0);have HNB:=Lib.hid (And.intro N1.out HB1.out);clear hown0 hnum0 hLe hl0 HOWN;go_wp2_with fail;clear c0 c1 c2 c3 c4 c5 c6 c7 c8 c9 c10 hX;go_loopw [3,4] (fun b i wr=>∃(k m:Nat) (ab:Option Addr) (cb:Nat),k<=xs.length∧i= .int .i64 k∧b= .slice ab m cb∧m<=1048700∧Hid (New w wr∧wr.heap[w.heap.size]? =some (.cells #[.int .u8 3,.string name,.string tag,.slice sa xs.length sc,.string fn,I fp,I fa,.string tn,I tp,I ta,I at_] ItT (0,0)))∧Hid (eq wr w.heap.size ab m cb (L0++ak (xs.take k))∧(L0++ak (xs.take k)).length=m)) (fun _ i _=>xs.length-(intOf i).toNat)
  case atStart=>exact⟨0,n0,a1,c1',by omega,rfl,rfl,by omega,HNB,HA⟩
  case round=>
    clear HA hb0;obtain⟨k,m,ab,cb,hk,rfl,rfl,hm,HNW,HO⟩:=hrel;obtain⟨⟨-,-,-,c3,-,-,-,-,-,-,-⟩,-,hXB⟩:=aN HNW.out.2;have hszr:w.heap.size<=wr.heap.size:=HNW.out.1.size;by_cases hc:k<xs.length∧m<=1048576
    · obtain⟨hk1,hm2⟩:=hc
      have hkI:(k:Int)<(xs.length:Int):=by omega
      have hkd:decide (k<xs.length)=true:=decide_eq_true hk1;have hmI:(m:Int)<=(1048576:Int):=by omega
      have hmd:decide (m<=1048576)=true:=decide_eq_true hm2;obtain⟨bb,off,hab,q0⟩:=(HX.out.new HNW.out.1) k (by simpa[Is] using hk1);have hv:(Is xs).getD k undef=I xs[k]:=by simp[Is,hk1]
      rw[hv] at q0;have hbw:=World.block_lt_of_cell? wr _ q0;have v01:=HD.out.xs _ (List.getElem_mem hk1);have hsucc:=cT xs k hk1;subst hab;generalize xs[k]=v at q0 v01 hsucc hv;have HSU:=Lib.hid hsucc;have hdg:=fun W=>eT W v v01.1 v01.2
      have hSz:=eY v v01;obtain⟨Sv,hSv⟩:∃S,cC v=S:=⟨_,rfl⟩
      rw[hSv] at hdg hSz;have hSl:Sv.data.toList=Lib.itoa v:=by rw[<-hSv];rfl
      obtain⟨Sw,hSw⟩:∃S,(⟨#[32]⟩:ByteArray)++Sv=S:=⟨_,rfl⟩
      have hSwz:Sw.size=1+Sv.size:=by rw[<-hSw,ByteArray.size_append];rfl
      have hSwl:Sw.data.toList=32::Lib.itoa v:=by rw[<-hSw,ByteArray.data_append,Array.toList_append,hSl];rfl
      have hadd:∀w:World,(Op.stringOp .add (⟨#[32]⟩:ByteArray) Sv).run Tryz.prog w= .ok (.string Sw) w:=fun w=>by rw[<-hSw];exact run_string_add_sum w _ _ (by show 1+Sv.size<=_;omega)
      have HSW:=Lib.hid hSwl;have hsw22:Sw.size<=22:=by omega
      clear hv hsucc hSv hSl hSw hSwl hSwz hSz;go_wp2_with fail;refine(hdg _).mono ?_;rintro e w2 ⟨rfl,n2⟩;have HO2:=Lib.hid (n2.owns HO.out.1);have hsz2:=Nat.le_trans hszr n2.size;have HN2:=Lib.hid (And.intro (HNW.out.1.trans n2) (Keeps.heap n2 HNW.out.2 (fun h=>h)));clear hdg n2 q0 hbw c3 hXB;go_wp2_with (at_builtin;refine wm rfl _ _ rfl w.heap.size ab cb (L0++ak (xs.take k)) m rfl HO2.out Sw rfl ?d1 hsz2 ?_);case d1=>omega
      intro a5 c5 w5 hown5 hk5;have HN5:=Lib.hid (And.intro (New.keeps HN2.out.1 hk5 (fun i hi hx=>by have:=(an HO2.out hx).1;omega)) (dC HO2.out hk5 HN2.out.2));have hmm:(L0++ak (xs.take (k+1))).length=m+Sw.size:=by rw[HSU.out,<-List.append_assoc,<-HSW.out,List.length_append,HO.out.2,ai]
      have HO5:Hid (eq w5 w.heap.size a5 (m+Sw.size) c5 (L0++ak (xs.take (k+1)))∧(L0++ak (xs.take (k+1))).length=m+Sw.size):=Lib.hid ⟨by rw[HSU.out,<-HSW.out];(try simp only[List.append_assoc] at hown5 ⊢);exact hown5,hmm⟩;clear hown5 hk5 hmm;go_wp2_with fail;go_roundw
      case rel=>exact⟨k+1,m+Sw.size,a5,c5,by omega,by go_num,by first|rfl|(congr 1),by omega,HN5,HO5⟩
      case measure=>simp[intOf];omega
    · have HF:Hid (∀(a:Option Addr) (c n:Nat) (w':World),m+2=n->eq w' w.heap.size a n c (L0++ak (xs.take k)++[59,10])->New w w'->PO (.returned (.slice a n c)) w'):=Lib.hid (fun a c n w' h1 h2 h3=>by
        rw[HPO.out];exact gA (x:=(⟨3,name,tag,sa,sc,xs,fn,fp,fa,tn,tp,ta,at_⟩:SIt)) HLE.out HO.out.2 hm (by show k=xs.length∨_;omega) h1 h2 h3)
      by_cases hk1:k<xs.length
      case' pos=>
        have hkI:(k:Int)<(xs.length:Int):=by omega
        have hkd:decide (k<xs.length)=true:=decide_eq_true hk1;have hmI:¬(m:Int)<=(1048576:Int):=by omega
        have hmd:decide (m<=1048576)=false:=decide_eq_false (by omega)
      case' neg=>
        have hkI:(xs.length:Int)<=(k:Int):=by omega
        have hkd:decide (k<xs.length)=false:=decide_eq_false hk1
      all_goals
        (clear hc
         go_wp2_with (at_builtin;refine wm rfl _ _ rfl w.heap.size ab cb (L0++ak (xs.take k)) m rfl HO.out.1 (⟨#[59,10]⟩:ByteArray) rfl (by show m+2<=_;omega) hszr ?_);intro a5 c5 w5 hown5 hk5;have HN5:=Lib.hid (New.keeps HNW.out.1 hk5 (fun i hi hx=>by have:=(an HO.out.1 hx).1;omega));go_wp2_with fail;(try go_ret)
         refine HF.out a5 c5 _ _ rfl ?_ HN5.out;(try simp only[List.append_assoc] at hown5 ⊢)
         exact hown5)
set_option maxRecDepth 100000 in
set_option maxHeartbeats 8000000 in
theorem rn (w:World) (name tag:ByteArray) (sa:Option Addr) (sc:Nat) (xs:List Int) (fn:ByteArray) (fp fa:Int) (tn:ByteArray) (tp ta at_:Int) (hx:am w sa (Is xs)) (hr:aP (⟨4,name,tag,sa,sc,xs,fn,fp,fa,tn,tp,ta,at_⟩:SIt)=true) (hd:IBnd (⟨4,name,tag,sa,sc,xs,fn,fp,fa,tn,tp,ta,at_⟩:SIt)):
    Calls Tryz.prog 82 #[.agg (itA (⟨4,name,tag,sa,sc,xs,fn,fp,fa,tn,tp,ta,at_⟩:SIt))] w (hJ w (⟨4,name,tag,sa,sc,xs,fn,fp,fa,tn,tp,ta,at_⟩:SIt)):=by
  have nb:New w (w.alloc (.cells #[.int .u8 4,.string name,.string tag,.slice sa xs.length sc,.string fn,I fp,I fa,.string tn,I tp,I ta,I at_] ItT)):=(New.refl w).alloc _;have hbk:(w.alloc (.cells #[.int .u8 4,.string name,.string tag,.slice sa xs.length sc,.string fn,I fp,I fa,.string tn,I tp,I ta,I at_] ItT)).heap[w.heap.size]? =some (.cells #[.int .u8 4,.string name,.string tag,.slice sa xs.length sc,.string fn,I fp,I fa,.string tn,I tp,I ta,I at_] ItT (0,0)):=heap_alloc_new w _;obtain⟨⟨c0,c1,c2,c3,c4,c5,c6,c7,c8,c9,c10⟩,-,hX⟩:=aN hbk;have HBK:=Lib.hid hbk;have HX:=Lib.hid hx;have HD:=Lib.hid hd;have HN:=Lib.hid nb;obtain⟨fp0,fp1⟩:=hd.p0;obtain⟨tp0,tp1⟩:=hd.p1;have hln:=hd.ln;simp only at fp0 fp1 tp0 tp1 hln;obtain⟨PO,hPO⟩:∃PO:Ending->World->Prop,PO=hJ w (⟨4,name,tag,sa,sc,xs,fn,fp,fa,tn,tp,ta,at_⟩:SIt):=⟨_,rfl⟩
  rw[<-hPO];have HPO:=Lib.hid hPO;replace hr:(aM name&&bL tag&&(xs.length==0)&&aM fn&&de tn tp)=true:=hr;simp only[Bool.and_eq_true] at hr;have hhd:bP (⟨4,name,tag,sa,sc,xs,fn,fp,fa,tn,tp,ta,at_⟩:SIt)=[32,32,111,117,116,32]++aD fn fp++[32,45,62,32]++name.data.toList:=rfl;clear hbk hx hd hPO;obtain⟨⟨⟨⟨hn,-⟩,-⟩,hf⟩,-⟩:=hr;have n16:=bh hn;have f16:=bh hf;clear hn hf;have hfc:=fun W=>iG W fn fp fa (by omega) ⟨fp0,fp1⟩
  obtain⟨PF,hPF⟩:∃P:ByteArray,(⟨(aD fn fp).toArray⟩:ByteArray)=P:=⟨_,rfl⟩
  have lPF:PF.data.toList=aD fn fp:=by rw[<-hPF]
  have zPF:PF.size<=38:=by rw[<-ai,lPF];exact cn fn fp f16 fp0 fp1
  rw[hPF] at hfc;clear hPF;obtain⟨S1,hS1⟩:∃X,(⟨#[32,32,111,117,116,32]⟩:ByteArray)++PF=X:=⟨_,rfl⟩
  have hzS1:S1.size<=44:=by
    have h1:((⟨#[32,32,111,117,116,32]⟩:ByteArray)).size<=6:=(by decide)
    have h2:(PF).size<=38:=zPF;rw[<-hS1,ByteArray.size_append];omega
  have lS1:S1.data.toList=((⟨#[32,32,111,117,116,32]⟩:ByteArray)).data.toList++(PF).data.toList:=by rw[<-hS1,ByteArray.data_append,Array.toList_append]
  have addS1:∀w:World,(Op.stringOp .add ((⟨#[32,32,111,117,116,32]⟩:ByteArray)) (PF)).run Tryz.prog w= .ok (.string S1) w:=fun w=>by
    have h1:((⟨#[32,32,111,117,116,32]⟩:ByteArray)).size<=6:=(by decide)
    have h2:(PF).size<=38:=zPF;rw[<-hS1];exact run_string_add_sum w _ _ (by omega)
  clear hS1;obtain⟨S2,hS2⟩:∃X,S1++(⟨#[32,45,62,32]⟩:ByteArray)=X:=⟨_,rfl⟩
  have hzS2:S2.size<=48:=by
    have h1:(S1).size<=44:=hzS1;have h2:((⟨#[32,45,62,32]⟩:ByteArray)).size<=4:=(by decide)
    rw[<-hS2,ByteArray.size_append];omega
  have lS2:S2.data.toList=(S1).data.toList++((⟨#[32,45,62,32]⟩:ByteArray)).data.toList:=by rw[<-hS2,ByteArray.data_append,Array.toList_append]
  have addS2:∀w:World,(Op.stringOp .add (S1) ((⟨#[32,45,62,32]⟩:ByteArray))).run Tryz.prog w= .ok (.string S2) w:=fun w=>by
    have h1:(S1).size<=44:=hzS1;have h2:((⟨#[32,45,62,32]⟩:ByteArray)).size<=4:=(by decide)
    rw[<-hS2];exact run_string_add_sum w _ _ (by omega)
  clear hS2;obtain⟨S3,hS3⟩:∃X,S2++name=X:=⟨_,rfl⟩
  have hzS3:S3.size<=64:=by
    have h1:(S2).size<=48:=hzS2;have h2:(name).size<=16:=n16;rw[<-hS3,ByteArray.size_append];omega
  have lS3:S3.data.toList=(S2).data.toList++(name).data.toList:=by rw[<-hS3,ByteArray.data_append,Array.toList_append]
  have addS3:∀w:World,(Op.stringOp .add (S2) (name)).run Tryz.prog w= .ok (.string S3) w:=fun w=>by
    have h1:(S2).size<=48:=hzS2;have h2:(name).size<=16:=n16;rw[<-hS3];exact run_string_add_sum w _ _ (by omega)
  clear hS3;have hls:S3.data.toList=bP (⟨4,name,tag,sa,sc,xs,fn,fp,fa,tn,tp,ta,at_⟩:SIt):=by rw[hhd];rw[lS3,lS2,lS1,lPF]
  have HLS:=Lib.hid hls;clear hls hhd;clear lS1 lS2 lS3 lPF;go_enter Tryz.func82,Tryz.ntmps82;go_wp2_with fail;have hS0:(fun w':World=>w'.cell? ⟨w.heap.size,1,none⟩=some (.string name)∧w'.cell? ⟨w.heap.size,2,none⟩=some (.string tag)∧w'.cell? ⟨w.heap.size,3,none⟩=some (.slice sa xs.length sc)∧w'.cell? ⟨w.heap.size,4,none⟩=some (.string fn)∧w'.cell? ⟨w.heap.size,5,none⟩=some (I fp)∧w'.cell? ⟨w.heap.size,6,none⟩=some (I fa)∧w'.cell? ⟨w.heap.size,7,none⟩=some (.string tn)∧w'.cell? ⟨w.heap.size,8,none⟩=some (I tp)∧w'.cell? ⟨w.heap.size,9,none⟩=some (I ta)) (w.alloc (.cells #[.int .u8 4,.string name,.string tag,.slice sa xs.length sc,.string fn,I fp,I fa,.string tn,I tp,I ta,I at_] ItT)).drew:=⟨New.cell (New.refl (w.alloc (.cells #[.int .u8 4,.string name,.string tag,.slice sa xs.length sc,.string fn,I fp,I fa,.string tn,I tp,I ta,I at_] ItT))).drew c1,New.cell (New.refl (w.alloc (.cells #[.int .u8 4,.string name,.string tag,.slice sa xs.length sc,.string fn,I fp,I fa,.string tn,I tp,I ta,I at_] ItT))).drew c2,New.cell (New.refl (w.alloc (.cells #[.int .u8 4,.string name,.string tag,.slice sa xs.length sc,.string fn,I fp,I fa,.string tn,I tp,I ta,I at_] ItT))).drew c3,New.cell (New.refl (w.alloc (.cells #[.int .u8 4,.string name,.string tag,.slice sa xs.length sc,.string fn,I fp,I fa,.string tn,I tp,I ta,I at_] ItT))).drew c4,New.cell (New.refl (w.alloc (.cells #[.int .u8 4,.string name,.string tag,.slice sa xs.length sc,.string fn,I fp,I fa,.string tn,I tp,I ta,I at_] ItT))).drew c5,New.cell (New.refl (w.alloc (.cells #[.int .u8 4,.string name,.string tag,.slice sa xs.length sc,.string fn,I fp,I fa,.string tn,I tp,I ta,I at_] ItT))).drew c6,New.cell (New.refl (w.alloc (.cells #[.int .u8 4,.string name,.string tag,.slice sa xs.length sc,.string fn,I fp,I fa,.string tn,I tp,I ta,I at_] ItT))).drew c7,New.cell (New.refl (w.alloc (.cells #[.int .u8 4,.string name,.string tag,.slice sa xs.length sc,.string fn,I fp,I fa,.string tn,I tp,I ta,I at_] ItT))).drew c8,New.cell (New.refl (w.alloc (.cells #[.int .u8 4,.string name,.string tag,.slice sa xs.length sc,.string fn,I fp,I fa,.string tn,I tp,I ta,I at_] ItT))).drew c9⟩
  refine ar (fun w':World=>w'.cell? ⟨w.heap.size,1,none⟩=some (.string name)∧w'.cell? ⟨w.heap.size,2,none⟩=some (.string tag)∧w'.cell? ⟨w.heap.size,3,none⟩=some (.slice sa xs.length sc)∧w'.cell? ⟨w.heap.size,4,none⟩=some (.string fn)∧w'.cell? ⟨w.heap.size,5,none⟩=some (I fp)∧w'.cell? ⟨w.heap.size,6,none⟩=some (I fa)∧w'.cell? ⟨w.heap.size,7,none⟩=some (.string tn)∧w'.cell? ⟨w.heap.size,8,none⟩=some (I tp)∧w'.cell? ⟨w.heap.size,9,none⟩=some (I ta)) [9,10] (by kernel_rfl) hS0 ?_;refine ae 0 hS0 ?_;refine ae 1 hS0 ?_;refine ae 2 hS0 ?_;refine ae 6 hS0 ?_;refine ae 7 hS0 ?_;refine ah 3 ?_;intro K hK;(try simp only[Act.put,sLs])
  go_simp;refine(hfc _).mono ?_;rintro e v1 ⟨rfl,m1⟩;have kk1:=(New.refl (w.alloc (.cells #[.int .u8 4,.string name,.string tag,.slice sa xs.length sc,.string fn,I fp,I fa,.string tn,I tp,I ta,I at_] ItT))).drew.trans m1;have hS1:(fun w':World=>w'.cell? ⟨w.heap.size,1,none⟩=some (.string name)∧w'.cell? ⟨w.heap.size,2,none⟩=some (.string tag)∧w'.cell? ⟨w.heap.size,3,none⟩=some (.slice sa xs.length sc)∧w'.cell? ⟨w.heap.size,4,none⟩=some (.string fn)∧w'.cell? ⟨w.heap.size,5,none⟩=some (I fp)∧w'.cell? ⟨w.heap.size,6,none⟩=some (I fa)∧w'.cell? ⟨w.heap.size,7,none⟩=some (.string tn)∧w'.cell? ⟨w.heap.size,8,none⟩=some (I tp)∧w'.cell? ⟨w.heap.size,9,none⟩=some (I ta)) v1:=⟨New.cell kk1 c1,New.cell kk1 c2,New.cell kk1 c3,New.cell kk1 c4,New.cell kk1 c5,New.cell kk1 c6,New.cell kk1 c7,New.cell kk1 c8,New.cell kk1 c9⟩
  refine hK _ _ (fun _=>hS1) ?_;clear hK K;refine ae 4 hS1 ?_;refine ae 5 hS1 ?_;refine ae 8 hS1 ?_;have hsz:=Nat.le_trans nb.size kk1.size;refine ah 9 ?_;intro K hK;refine iK rfl _ _ rfl w.heap.size none 0 [] 0 rfl (dm v1 _) S3 rfl (by omega) hsz ?_;intro a1 c1' w1 hown hk;have N1:=Lib.hid (New.keeps (nb.trans kk1) hk (fun k hk hx=>by obtain⟨y,hy,_⟩:=hx;cases hy));have HB1:=Lib.hid (dC (dm v1 w.heap.size) hk (Keeps.heap kk1 HBK.out (fun h=>h)));refine hK _ _ (fun hx=>by cases hx) ?_;clear hK K;refine ah 10 ?_;intro K hK;(try simp only[Act.put,sLs])
  go_simp;refine hK _ _ (fun hx=>by cases hx) ?_;clear hK K;refine aB (by kernel_rfl) ?_;(try simp only[Act.put,sLs])
  (try simp only[Exit.then])
  clear hS0 hS1 kk1 m1 hk c0 c1 c2 c3 c4 c5 c6 c7 c8 c9 c10 hX;obtain⟨⟨c0,c1,c2,c3,c4,c5,c6,c7,c8,c9,c10⟩,-,hX⟩:=aN HB1.out;obtain⟨n0,hn0⟩:∃n,S3.size=n:=⟨_,rfl⟩
  (try simp only[Nat.zero_add,List.nil_append] at hown)
  (try simp only[Nat.zero_add])
  rw[hn0] at hown ⊢;obtain⟨L0,hL0⟩:∃L,S3.data.toList=L:=⟨_,rfl⟩
  rw[hL0] at hown;have hl0:L0.length=n0:=by rw[<-hL0,ai];exact hn0
  have hb0:n0<=64:=by omega
  have hLe:L0=bP (⟨4,name,tag,sa,sc,xs,fn,fp,fa,tn,tp,ta,at_⟩:SIt):=by rw[<-hL0];exact HLS.out
  have HOWN:=Lib.hid hown;clear hown hn0 hL0;have HLE:=Lib.hid hLe;have hnum0:(L0++ak (xs.take 0)).length=n0:=by simpa[ak] using hl0
  have hown0:eq w1 w.heap.size a1 n0 c1' (L0++ak (xs.take 0)):=by simpa[ak] using HOWN.out
  have HA:=Lib.hid (And.intro hown0 hnum0);have HNB:=Lib.hid (And.intro N1.out HB1.out);clear hown0 hnum0 hLe hl0 HOWN;go_wp2_with fail;clear c0 c1 c2 c3 c4 c5 c6 c7 c8 c9 c10 hX;go_loopw [3,4] (fun b i wr=>∃(k m:Nat) (ab:Option Addr) (cb:Nat),k<=xs.length∧i= .int .i64 k∧b= .slice ab m cb∧m<=1048700∧Hid (New w wr∧wr.heap[w.heap.size]? =some (.cells #[.int .u8 4,.string name,.string tag,.slice sa xs.length sc,.string fn,I fp,I fa,.string tn,I tp,I ta,I at_] ItT (0,0)))∧Hid (eq wr w.heap.size ab m cb (L0++ak (xs.take k))∧(L0++ak (xs.take k)).length=m)) (fun _ i _=>xs.length-(intOf i).toNat)
  case atStart=>exact⟨0,n0,a1,c1',by omega,rfl,rfl,by omega,HNB,HA⟩
  case round=>
    clear HA hb0;obtain⟨k,m,ab,cb,hk,rfl,rfl,hm,HNW,HO⟩:=hrel;obtain⟨⟨-,-,-,c3,-,-,-,-,-,-,-⟩,-,hXB⟩:=aN HNW.out.2;have hszr:w.heap.size<=wr.heap.size:=HNW.out.1.size;by_cases hc:k<xs.length∧m<=1048576
    · obtain⟨hk1,hm2⟩:=hc
      have hkI:(k:Int)<(xs.length:Int):=by omega
      have hkd:decide (k<xs.length)=true:=decide_eq_true hk1;have hmI:(m:Int)<=(1048576:Int):=by omega
      have hmd:decide (m<=1048576)=true:=decide_eq_true hm2;obtain⟨bb,off,hab,q0⟩:=(HX.out.new HNW.out.1) k (by simpa[Is] using hk1);have hv:(Is xs).getD k undef=I xs[k]:=by simp[Is,hk1]
      rw[hv] at q0;have hbw:=World.block_lt_of_cell? wr _ q0;have v01:=HD.out.xs _ (List.getElem_mem hk1);have hsucc:=cT xs k hk1;subst hab;generalize xs[k]=v at q0 v01 hsucc hv;have HSU:=Lib.hid hsucc;have hdg:=fun W=>eT W v v01.1 v01.2
      have hSz:=eY v v01;obtain⟨Sv,hSv⟩:∃S,cC v=S:=⟨_,rfl⟩
      rw[hSv] at hdg hSz;have hSl:Sv.data.toList=Lib.itoa v:=by rw[<-hSv];rfl
      obtain⟨Sw,hSw⟩:∃S,(⟨#[32]⟩:ByteArray)++Sv=S:=⟨_,rfl⟩
      have hSwz:Sw.size=1+Sv.size:=by rw[<-hSw,ByteArray.size_append];rfl
      have hSwl:Sw.data.toList=32::Lib.itoa v:=by rw[<-hSw,ByteArray.data_append,Array.toList_append,hSl];rfl
      have hadd:∀w:World,(Op.stringOp .add (⟨#[32]⟩:ByteArray) Sv).run Tryz.prog w= .ok (.string Sw) w:=fun w=>by rw[<-hSw];exact run_string_add_sum w _ _ (by show 1+Sv.size<=_;omega)
      have HSW:=Lib.hid hSwl;have hsw22:Sw.size<=22:=by omega
      clear hv hsucc hSv hSl hSw hSwl hSwz hSz;go_wp2_with fail;refine(hdg _).mono ?_;rintro e w2 ⟨rfl,n2⟩;have HO2:=Lib.hid (n2.owns HO.out.1);have hsz2:=Nat.le_trans hszr n2.size;have HN2:=Lib.hid (And.intro (HNW.out.1.trans n2) (Keeps.heap n2 HNW.out.2 (fun h=>h)));clear hdg n2 q0 hbw c3 hXB;go_wp2_with (at_builtin;refine wm rfl _ _ rfl w.heap.size ab cb (L0++ak (xs.take k)) m rfl HO2.out Sw rfl ?d1 hsz2 ?_);case d1=>omega
      intro a5 c5 w5 hown5 hk5;have HN5:=Lib.hid (And.intro (New.keeps HN2.out.1 hk5 (fun i hi hx=>by have:=(an HO2.out hx).1;omega)) (dC HO2.out hk5 HN2.out.2));have hmm:(L0++ak (xs.take (k+1))).length=m+Sw.size:=by rw[HSU.out,<-List.append_assoc,<-HSW.out,List.length_append,HO.out.2,ai]
      have HO5:Hid (eq w5 w.heap.size a5 (m+Sw.size) c5 (L0++ak (xs.take (k+1)))∧(L0++ak (xs.take (k+1))).length=m+Sw.size):=Lib.hid ⟨by rw[HSU.out,<-HSW.out];(try simp only[List.append_assoc] at hown5 ⊢);exact hown5,hmm⟩;clear hown5 hk5 hmm;go_wp2_with fail;go_roundw
      case rel=>exact⟨k+1,m+Sw.size,a5,c5,by omega,by go_num,by first|rfl|(congr 1),by omega,HN5,HO5⟩
      case measure=>simp[intOf];omega
    · have HF:Hid (∀(a:Option Addr) (c n:Nat) (w':World),m+2=n->eq w' w.heap.size a n c (L0++ak (xs.take k)++[59,10])->New w w'->PO (.returned (.slice a n c)) w'):=Lib.hid (fun a c n w' h1 h2 h3=>by
        rw[HPO.out];exact gA (x:=(⟨4,name,tag,sa,sc,xs,fn,fp,fa,tn,tp,ta,at_⟩:SIt)) HLE.out HO.out.2 hm (by show k=xs.length∨_;omega) h1 h2 h3)
      by_cases hk1:k<xs.length
      case' pos=>
        have hkI:(k:Int)<(xs.length:Int):=by omega
        have hkd:decide (k<xs.length)=true:=decide_eq_true hk1;have hmI:¬(m:Int)<=(1048576:Int):=by omega
        have hmd:decide (m<=1048576)=false:=decide_eq_false (by omega)
      case' neg=>
        have hkI:(xs.length:Int)<=(k:Int):=by omega
        have hkd:decide (k<xs.length)=false:=decide_eq_false hk1
      all_goals
        (clear hc
         go_wp2_with (at_builtin;refine wm rfl _ _ rfl w.heap.size ab cb (L0++ak (xs.take k)) m rfl HO.out.1 (⟨#[59,10]⟩:ByteArray) rfl (by show m+2<=_;omega) hszr ?_);intro a5 c5 w5 hown5 hk5;have HN5:=Lib.hid (New.keeps HNW.out.1 hk5 (fun i hi hx=>by have:=(an HO.out.1 hx).1;omega));go_wp2_with fail;(try go_ret)
         refine HF.out a5 c5 _ _ rfl ?_ HN5.out;(try simp only[List.append_assoc] at hown5 ⊢)
         exact hown5)
theorem rm (w:World) (x:SIt) (hx:am w x.a (Is x.xs)) (hr:aP x=true) (hd:IBnd x):
  Calls Tryz.prog 82 #[.agg (itA x)] w (hJ w x):=by
 obtain⟨kind,name,tag,sa,sc,xs,fn,fp,fa,tn,tp,ta,at_⟩:=x;have hk:kind=1∨kind=2∨kind=3∨kind=4:=by
  unfold aP at hr;simp only at hr;split at hr
  ·exact .inl (by assumption)
  ·split at hr
   ·exact .inr (.inl (by assumption))
   ·split at hr
    ·exact .inr (.inr (.inl (by assumption)))
    ·split at hr
     ·exact .inr (.inr (.inr (by assumption)))
     ·cases hr
 rcases hk with rfl|rfl|rfl|rfl
 ·exact nM w name tag sa sc xs fn fp fa tn tp ta at_ hx hr hd
 ·by_cases hxs:xs=[]
  ·exact nN w name tag sa sc xs fn fp fa tn tp ta at_ hx hr hd hxs
  ·exact nP w name tag sa sc xs fn fp fa tn tp ta at_ hx hr hd hxs
 ·exact sX w name tag sa sc xs fn fp fa tn tp ta at_ hx hr hd
 ·exact rn w name tag sa sc xs fn fp fa tn tp ta at_ hx hr hd
def jI (s:Sk) (k:Nat):List UInt8:=[103,114,97,112,104,32]++s.name.data.toList++[32,123,10]++(s.items.take k).flatMap bw
theorem qZ (s:Sk) (k:Nat) (h:k<s.items.length):jI s (k+1)=jI s k++bw s.items[k]:=by
 unfold jI;rw[List.take_succ_eq_append_getElem h,List.flatMap_append];simp
theorem nE (s:Sk):jI s s.items.length++[125,10]=bY s:=by
 unfold jI bY;rw[List.take_length]
theorem uB (s:Sk) (k:Nat):(jI s k).length+2<=(bY s).length:=by
 rw[<-nE];unfold jI;rw[List.take_length];have h:(s.items.flatMap bw).length=((s.items.take k).flatMap bw).length+((s.items.drop k).flatMap bw).length:=by
  conv=>lhs;rw[<-List.take_append_drop k s.items]
  rw[List.flatMap_append,List.length_append]
 simp only[List.length_append,List.length_cons,List.length_nil];omega
def Cut (L F:List UInt8) (m:Nat):Prop:=L=F∨1048576<m∧1048576<F.length
theorem sn {Lb F L l:List UInt8} {m n:Nat} (h:Cut Lb F m) (hm:m<=1048576) (hl:L=l∨1048576<n∧1048576<l.length):Cut (Lb++L) (F++l) (m+n):=by
 rcases h with rfl|⟨h,_⟩
 ·rcases hl with rfl|⟨h1,h2⟩
  ·exact .inl rfl
  ·exact .inr ⟨by omega,by rw[List.length_append];omega⟩
 ·omega
theorem uk {s:Sk} {Lb:List UInt8} {k m n:Nat} (h:Cut Lb (jI s k) m) (hl:Lb.length=m) (hk:k=s.items.length∨1048576<m) (hn:m+2=n) (hnm:aM s.name=true) (hr:s.items.all aP=true):
  (1048576<n∧bJ s=([],2))∨(n<=1048576∧bJ s=(Lb++[125,10],0)):=by
 have hle:=uB s k;have hend:=nE s;by_cases hb:1048576<n
 ·left
  refine⟨hb,?_⟩;have hp:1048576<(bY s).length:=by
   rcases h with rfl|⟨_,h⟩
   ·rcases hk with rfl|hk
    ·rw[<-hend,List.length_append,hl];simp only[List.length_cons,List.length_nil];omega
    ·omega
   ·omega
  unfold bJ;rw[hnm,hr,if_neg (by decide),if_pos hp]
 ·right
  refine⟨by omega,?_⟩;rcases h with rfl|⟨h,_⟩
  ·rcases hk with rfl|hk
   ·have hp:¬1048576<(bY s).length:=by rw[<-hend,List.length_append,hl];simp only[List.length_cons,List.length_nil];omega
    unfold bJ;rw[hnm,hr,if_neg (by decide),if_neg hp,hend]
   ·omega
  ·omega
set_option maxRecDepth 100000 in
set_option maxHeartbeats 16000000 in
theorem o7 (w:World) (s:Sk) (hs:SkAt w s) (hb:SBnd s):
    Calls Tryz.prog 43 #[s.v] w fun e w'=>e= .returned (.tuple #[.string ⟨(bJ s).1.toArray⟩,I (bJ s).2])∧New w w':=by
  obtain⟨i0,hi,hz0,hz1,hz2⟩:=info_parts infoByte;obtain⟨nm,hnm⟩:∃n,s.name=n:=⟨_,rfl⟩
  obtain⟨aI,hia⟩:∃n,s.ia=n:=⟨_,rfl⟩
  obtain⟨il,hil⟩:∃n,s.items.length=n:=⟨_,rfl⟩
  obtain⟨ic,hic⟩:∃n,s.ic=n:=⟨_,rfl⟩
  have hv0:s.v= .agg #[.string nm,.slice aI il ic]:=by show Value.agg #[.string s.name,.slice s.ia s.items.length s.ic]=_;rw[hnm,hia,hil,hic]
  have hmax:=hb.i;have hnz:=hb.n;rw[hil] at hmax;rw[hnm] at hnz;rw[hv0];have HNM:=Lib.hid hnm;have HIA:=Lib.hid hia;have HIL:=Lib.hid hil;have HS:=Lib.hid hs;have HB:=Lib.hid hb;obtain⟨PO,hPO⟩:∃PO:Ending->World->Prop,PO=fun e w'=>e= .returned (.tuple #[.string ⟨(bJ s).1.toArray⟩,I (bJ s).2])∧New w w':=⟨_,rfl⟩
  rw[<-hPO];have HPO:=Lib.hid hPO;clear hnm hia hil hic hs hb hv0 hPO;have nb:New w (w.alloc (.cells #[.string nm,.slice aI il ic] 52)):=(New.refl w).alloc _;have hbk:(w.alloc (.cells #[.string nm,.slice aI il ic] 52)).heap[w.heap.size]? =some (.cells #[.string nm,.slice aI il ic] 52 (0,0)):=heap_alloc_new w _;obtain⟨c0,c1,-,-,hX⟩:=bx hbk;have hrn:=dK (w.alloc (.cells #[.string nm,.slice aI il ic] 52)) nm hnz;have HNB:=Lib.hid nb;have HBK:=Lib.hid hbk;obtain⟨bn,hbn⟩:∃b,aM nm=b:=⟨_,rfl⟩
  rw[hbn] at hrn;have HBN:=Lib.hid hbn;clear nb hbk hbn;go_enter Tryz.func43,Tryz.ntmps43;go_wp2_with fail;refine hrn.mono ?_;rintro e w1 ⟨rfl,n1⟩;have HN1:=Lib.hid (And.intro (HNB.out.trans n1) (Keeps.heap n1 HBK.out (fun h=>h)));clear c0 c1 hX hrn n1 HNB HBK;cases bn with
  |false=>
    have hpa:bJ s=([],1):=by unfold bJ;rw[HNM.out,HBN.out,if_pos (by simp)]
    have HPA:=Lib.hid hpa;clear hpa;go_wp2_with fail;(try go_ret)
    rw[HPO.out,HPA.out];exact⟨rfl,HN1.out.1⟩
  |true=>
    go_wp2_with fail;go_loopw [4] (fun i wr=>∃k:Nat,k<=il∧i= .int .i64 k∧Hid (New w wr∧wr.heap[w.heap.size]? =some (.cells #[.string nm,.slice aI il ic] 52 (0,0)))∧Hid ((s.items.take k).all aP=true)) (fun i _=>il-(intOf i).toNat)
    case atStart=>exact⟨0,by omega,rfl,HN1,Lib.hid rfl⟩
    case round=>
      clear HN1;obtain⟨k,hk,rfl,HN,HA⟩:=hrel;obtain⟨c0,c1,-,-,hX⟩:=bx HN.out.2;by_cases hk1:k<il
      · have hkl:k<s.items.length:=by rw[HIL.out];exact hk1
        have hkI:(k:Int)<(il:Int):=by omega
        have hkd:decide (k<il)=true:=decide_eq_true hk1;obtain⟨b,off,hab,q0,q1,q2,q3,q4,q5,q6,q7,q8,q9,q10⟩:=eX (HS.out.new HN.out.1).sl hkl;have hbw:=World.block_lt_of_cell? wr _ q0;obtain rfl:aI=some ⟨b,off,none⟩:=HIA.out.symm.trans hab;have hsz:=HB.out.sz _ (List.getElem_mem hkl);have hbd:=HB.out.bd _ (List.getElem_mem hkl);have hat:∀r,aP s.items[k]=r->r=true->(s.items.take (k+1)).all aP=true:=fun r h1 h2=>mC HA.out hkl (h1.trans h2)
        have hant:∀r,aP s.items[k]=r->r=false->s.items.all aP=false:=fun r h1 h2=>pA hkl (h1.trans h2)
        have hri:=fun W=>o8 W s.items[k] hsz hbd.ln
        have HAT:=Lib.hid hat;have HANT:=Lib.hid hant;clear hab hat hant;obtain⟨x,hx⟩:∃x,s.items[k]=x:=⟨_,rfl⟩
        rw[hx] at q0 q1 q2 q3 q4 q5 q6 q7 q8 q9 q10 hsz hbd hri HAT HANT;obtain⟨r,hr⟩:∃r,aP x=r:=⟨_,rfl⟩
        rw[hr] at hri;simp only[itA] at hri;have HR:=Lib.hid hr;clear hx hr hsz hbd;go_wp2_with fail;refine(hri _).mono ?_;rintro e w2 ⟨rfl,n2⟩;have HN2:=Lib.hid (And.intro (HN.out.1.trans n2) (Keeps.heap n2 HN.out.2 (fun h=>h)));clear c0 c1 hX q0 q1 q2 q3 q4 q5 q6 q7 q8 q9 q10 hbw n2 hri;cases r with
        |true=>
          have HA2:=Lib.hid (HAT.out true HR.out rfl);go_wp2_with fail;go_roundw
          case rel=>exact⟨k+1,by omega,by go_num,HN2,HA2⟩
          case measure=>simp[intOf];omega
        |false=>
          have hpa:bJ s=([],1):=by unfold bJ;rw[HANT.out false HR.out rfl,if_pos (by simp)]
          have HPA:=Lib.hid hpa;clear hpa;go_wp2_with fail;(try go_ret)
          rw[HPO.out,HPA.out];exact⟨rfl,HN2.out.1⟩
      · obtain rfl:k=il:=by omega
        have hkd:decide (k<k)=false:=decide_eq_false hk1;have hall:s.items.all aP=true:=by have h:=HA.out;rw[<-HIL.out,List.take_length] at h;exact h
        have HALL:=Lib.hid hall;have n16:=bh HBN.out;obtain⟨S1,hS1⟩:∃X,(⟨#[103,114,97,112,104,32]⟩:ByteArray)++nm=X:=⟨_,rfl⟩
        obtain⟨S2,hS2⟩:∃X,S1++(⟨#[32,123,10]⟩:ByteArray)=X:=⟨_,rfl⟩
        have z1:S1.size=6+nm.size:=by rw[<-hS1,ByteArray.size_append];rfl
        have z2:S2.size=S1.size+3:=by rw[<-hS2,ByteArray.size_append];rfl
        have add1:∀w:World,(Op.stringOp .add (⟨#[103,114,97,112,104,32]⟩:ByteArray) nm).run Tryz.prog w= .ok (.string S1) w:=fun w=>by rw[<-hS1];exact run_string_add_sum w _ _ (by show 6+nm.size<=_;omega)
        have add2:∀w:World,(Op.stringOp .add S1 (⟨#[32,123,10]⟩:ByteArray)).run Tryz.prog w= .ok (.string S2) w:=fun w=>by rw[<-hS2];exact run_string_add_sum w _ _ (by show S1.size+3<=_;omega)
        have hpre:S2.data.toList=jI s 0:=by
          rw[<-hS2,<-hS1,ByteArray.data_append,ByteArray.data_append,Array.toList_append,Array.toList_append];unfold jI;rw[HNM.out];simp
        have hz9:S2.size<=25:=by omega
        have HPRE:=Lib.hid hpre;have hszr:w.heap.size<=wr.heap.size:=HN.out.1.size;clear hall hS1 hS2 z1 z2 hpre HA;go_wp2_with (at_builtin;refine wm rfl _ _ rfl w.heap.size none 0 [] 0 rfl (dm wr _) S2 rfl (by omega) hszr ?_);intro a1 c1' w1 hown hk1';obtain⟨n0,hn0⟩:∃n,S2.size=n:=⟨_,rfl⟩
        (try simp only[Nat.zero_add,List.nil_append] at hown)
        (try simp only[Nat.zero_add])
        rw[hn0] at hown ⊢;have HNB:=Lib.hid (And.intro (New.keeps HN.out.1 hk1' (fun k hk hx=>by obtain⟨y,hy,_⟩:=hx;cases hy)) (pF (dm wr w.heap.size) hk1' HN.out.2));have HO0:=Lib.hid (And.intro hown (And.intro (show S2.data.toList.length=n0 by rw[ai];exact hn0) (show Cut S2.data.toList (jI s 0) n0 from .inl HPRE.out)));have hn9:n0<=25:=by omega
        clear hown hk1' HN c0 c1 hX add1 add2 hn0 hz9 hkd hk hk1;obtain⟨il,rfl⟩:∃z,z=k:=⟨_,rfl⟩
        go_wp2_with fail;go_loopw [5,6] (fun b i wr=>∃(k m:Nat) (ab:Option Addr) (cb:Nat) (Lb:List UInt8),k<=il∧i= .int .i64 k∧b= .slice ab m cb∧m<=2200000∧Hid (New w wr∧wr.heap[w.heap.size]? =some (.cells #[.string nm,.slice aI il ic] 52 (0,0)))∧Hid (eq wr w.heap.size ab m cb Lb∧Lb.length=m∧Cut Lb (jI s k) m)) (fun _ i _=>il-(intOf i).toNat)
        case atStart=>exact⟨0,n0,a1,c1',_,by omega,rfl,rfl,by omega,HNB,HO0⟩
        case round=>
          clear HNB HO0 hn9;obtain⟨k,m,ab,cb,Lb,hk,rfl,rfl,hm,HN,HO⟩:=hrel;obtain⟨c0,c1,-,-,hX⟩:=bx HN.out.2;have hszr:w.heap.size<=wr.heap.size:=HN.out.1.size;by_cases hc:k<il∧m<=1048576
          · obtain⟨hk1,hm2⟩:=hc
            have hkl:k<s.items.length:=by rw[HIL.out];exact hk1
            have hkI:(k:Int)<(il:Int):=by omega
            have hkd:decide (k<il)=true:=decide_eq_true hk1;have hmI:(m:Int)<=(1048576:Int):=by omega
            have hmd:decide (m<=1048576)=true:=decide_eq_true hm2;obtain⟨b,off,hab,q0,q1,q2,q3,q4,q5,q6,q7,q8,q9,q10⟩:=eX (HS.out.new HN.out.1).sl hkl;have hbw:=World.block_lt_of_cell? wr _ q0;obtain rfl:aI=some ⟨b,off,none⟩:=HIA.out.symm.trans hab;have hbd:=HB.out.bd _ (List.getElem_mem hkl);have hrr:=List.all_eq_true.1 HALL.out _ (List.getElem_mem hkl);have hxs:=(HS.out.new HN.out.1).nx _ (List.getElem_mem hkl);have hln:=rm wr s.items[k] hxs hrr hbd;have hpn:=qZ s k hkl;clear hab hbd hrr hxs;obtain⟨x,hx⟩:∃x,s.items[k]=x:=⟨_,rfl⟩
            rw[hx] at q0 q1 q2 q3 q4 q5 q6 q7 q8 q9 q10 hln hpn;simp only[itA] at hln;have HPN:=Lib.hid hpn;clear hx hpn;go_wp2_with fail;refine hln.mono ?_;rintro e w2 ⟨al,cl,nl,Ll,rfl,hol,hll,halt,hnl,n2⟩;have HOL:=Lib.hid (And.intro hol (And.intro hll halt));have HN2:=Lib.hid (And.intro (HN.out.1.trans n2) (Keeps.heap n2 HN.out.2 (fun h=>h)));have HO2:=Lib.hid (n2.owns HO.out.1);have hsz2:=Nat.le_trans hszr n2.size;clear hol hll halt n2 hln c0 c1 hX q0 q1 q2 q3 q4 q5 q6 q7 q8 q9 q10 hbw;go_wp2_with (at_builtin;refine bB rfl _ _ 138 rfl w.heap.size 5 i0 _ 1 1 Tryz.underlying138 hi hz0 hz1 hz2 rfl (by decide) ab m cb (dA Lb) rfl HO2.out al nl cl (dA Ll) rfl (by rw[<-HOL.out.2.1];unfold dA;simp) (am.of_owns HOL.out.1) (wq _) (by unfold maxLen;omega) (by omega) hsz2 ?_);intro a5 c5 w5 hown5 hk5 _ _;have HN5:=Lib.hid (And.intro (New.keeps HN2.out.1 hk5 (fun i hi hx=>by have:=(an HO2.out hx).1;omega)) (pF HO2.out hk5 HN2.out.2));have HO5:Hid (eq w5 w.heap.size a5 (m+nl) c5 (Lb++Ll)∧(Lb++Ll).length=m+nl∧Cut (Lb++Ll) (jI s (k+1)) (m+nl)):=Lib.hid ⟨by unfold eq;rw[wn];exact hown5,by rw[List.length_append,HO.out.2.1,HOL.out.2.1],by rw[HPN.out];exact sn HO.out.2.2 hm2 HOL.out.2.2⟩;clear hown5 hk5;go_wp2_with fail;go_roundw
            case rel=>exact⟨k+1,m+nl,a5,c5,_,by omega,by go_num,by first|rfl|(congr 1),by omega,HN5,HO5⟩
            case measure=>simp[intOf];omega
          · have hce:∀n,m+2=n->(1048576<n∧bJ s=([],2))∨(n<=1048576∧bJ s=(Lb++[125,10],0)):=fun n hn=>uk HO.out.2.2 HO.out.2.1 (by rw[HIL.out];omega) hn (by rw[HNM.out];exact HBN.out) HALL.out
            have HCE:=Lib.hid hce;clear hce;by_cases hk1:k<il
            case' pos=>
              have hkI:(k:Int)<(il:Int):=by omega
              have hkd:decide (k<il)=true:=decide_eq_true hk1;have hmI:¬(m:Int)<=(1048576:Int):=by omega
              have hmd:decide (m<=1048576)=false:=decide_eq_false (by omega)
            case' neg=>
              have hkI:(il:Int)<=(k:Int):=by omega
              have hkd:decide (k<il)=false:=decide_eq_false hk1
            all_goals
              (clear hc
               go_wp2_with (at_builtin;refine wm rfl _ _ rfl w.heap.size ab cb Lb m rfl HO.out.1 (⟨#[125,10]⟩:ByteArray) rfl (by show m+2<=_;omega) hszr ?_);intro a5 c5 w5 hown5 hk5;have HN5:=Lib.hid (New.keeps HN.out.1 hk5 (fun i hi hx=>by have:=(an HO.out.1 hx).1;omega));have hown6:eq w5 w.heap.size a5 (m+2) c5 (Lb++[125,10]):=by simpa using hown5
               clear hown5;(try simp only[show(⟨#[125,10]⟩:ByteArray).size=2 from rfl])
               have hn6:(Lb++[125,10]).length=m+2:=by rw[List.length_append,HO.out.2.1];rfl
               obtain⟨m6,hm6⟩:∃z,m+2=z:=⟨_,rfl⟩
               rw[hm6] at hown6 hn6 ⊢;obtain⟨L6,hL6⟩:∃z,Lb++[125,10]=z:=⟨_,rfl⟩
               have hcase:=HCE.out m6 hm6;rw[hL6] at hown6 hn6 hcase;obtain⟨X,hX6⟩:∃X:ByteArray,(⟨L6.toArray⟩:ByteArray)=X:=⟨_,rfl⟩
               have hXl:X.data.toList=L6:=by rw[<-hX6]
               have hcv:=or w5 w.heap.size a5 c5 L6 m6 hn6 hown6 X hXl;have HX6:=Lib.hid hX6;clear hm6 hL6 hX6 hXl hown6 hn6 hk5 hkI hkd hk1 c0 c1 hX;rcases hcase with⟨h1,h2⟩|⟨h1,h2⟩
               · have hd1:decide (1048576<m6)=true:=decide_eq_true h1
                 have hi1:(1048576:Int)<(m6:Int):=by omega
                 have HPA:=Lib.hid h2;clear h2;go_wp2_with fail;(try go_ret)
                 rw[HPO.out,HPA.out];exact⟨rfl,HN5.out⟩
               · have hd1:decide (1048576<m6)=false:=decide_eq_false (by omega)
                 have hi1:¬(1048576:Int)<(m6:Int):=by omega
                 have HPA:=Lib.hid h2;clear h2;go_wp2_with fail;(try go_ret)
                 rw[HPO.out,HPA.out,HX6.out];exact⟨rfl,HN5.out⟩)
end Go.Proofs.YtnedmonlofbahaaGreatDoor
