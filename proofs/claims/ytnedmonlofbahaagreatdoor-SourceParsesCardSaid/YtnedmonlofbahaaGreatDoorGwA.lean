/-
  ShapeD, ShapeO, ShapeW, GrC, GrD, GrE, GrF: what is wanted of them.
-/
import Derived.Test.YtnedmonlofbahaaGreatDoorBs
import Derived.Test.YtnedmonlofbahaaGreatDoorDbl
import Derived.Deep.DeepCutAuto
set_option maxRecDepth 100000
set_option maxHeartbeats 16000000
namespace Go.Proofs.YtnedmonlofbahaaGreatDoor
open Go Go.RowKit
set_option linter.all false
theorem j8 (n:Int) (r:Int) (w:World) (hn:0<=n∧n<=64):
  Calls Tryz.prog 144 #[I n,I r] w fun e w'=>∃ao c,e= .returned (.slice ao n.toNat c)∧bc w' w.heap.size ao c (List.replicate n.toNat r)∧New w w':=by
 obtain⟨k,rfl⟩:=Int.eq_ofNat_of_zero_le hn.1;exact uh k r w (by omega)
theorem iP (n m:Int) (h1:1<=n) (h2:n<=16) (h3:1<=m) (h4:m<=64):1<=n*m∧n*m<=1024:=by
 have a:=Int.mul_le_mul h1 h3 (by omega) (by omega);have b:=Int.mul_le_mul h2 h4 (by omega) (by omega);exact⟨by simpa using a,by simpa using b⟩
theorem j6 (x:Int) (w:World):
  Calls Tryz.prog 143 #[.slice (some ⟨w.heap.size,0,none⟩) 1 1] (w.alloc (.cells #[.int .i64 x] 3)) fun e w'=>∃ao' c',e= .returned (.slice ao' 1 c')∧bc w' (w.alloc (.cells #[.int .i64 x] 3)).heap.size ao' c' [x]∧New (w.alloc (.cells #[.int .i64 x] 3)) w':=
 nj _ 1 [x] _ (ar.lit _ _ _) (by simp)
theorem j7 (x y:Int) (w:World):
  Calls Tryz.prog 143 #[.slice (some ⟨w.heap.size,0,none⟩) 2 2] (w.alloc (.cells #[.int .i64 x,.int .i64 y] 3)) fun e w'=>∃ao' c',e= .returned (.slice ao' 2 c')∧bc w' (w.alloc (.cells #[.int .i64 x,.int .i64 y] 3)).heap.size ao' c' [x,y]∧New (w.alloc (.cells #[.int .i64 x,.int .i64 y] 3)) w':=
 nj _ 2 [x,y] _ (ar.lit _ _ _) (by simp)
theorem aP.mk2 {w w0 w1 w1' w2:World} {a b:Option Addr} {ca cb na nb:Nat} {xs ys xs' ys':List Int} (h0:New w w0) (ha:bc w1 w0.heap.size a ca xs) (h1:New w0 w1) (h1':New w1 w1') (hb:bc w2 w1'.heap.size b cb ys) (h2:New w1' w2)
  (hxs:xs=xs'∧na=xs'.length) (hys:ys=ys'∧nb=ys'.length):
  aP w (0,xs',ys') (.returned (.tuple #[.slice a na ca,.slice b nb cb,I 0])) w2:=
 aP.mk h0 (ha.new h1') (h1.trans h1') hb h2 hxs hys
theorem gp {t:Int} (h1:1<=t) (h2:t<=11):t=1∨t=2∨t=3∨t=4∨t=5∨t=6∨t=7∨t=8∨t=9∨t=10∨t=11:=by omega
theorem sh0 {t:Int} :bs t []=if 1<=t∧t<=11 then(if(if t=7∨t=8 then true else false) then(0,gC t []) else(61,[],[])) else(60,[],[]):=by
 by_cases h:1<=t∧t<=11
 ·have ht:=gp h.1 h.2;clear h;rcases ht with rfl|rfl|rfl|rfl|rfl|rfl|rfl|rfl|rfl|rfl|rfl<;>rfl
 ·unfold bs;rw[if_neg h,if_neg h]
theorem sh1 {t n:Int} {a b:Bool} (ha:decide (1<=n∧n<=16)=a) (hb:decide (1<=n∧n<=64)=b):bs t [n]=if 1<=t∧t<=11 then(if(if t=1 then true else if t=2∨t=3∨t=11 then b else if t=4∨t=5 then false else if t=6∨t=9 then a else if t=10 then false else false) then(0,gC t [n]) else(61,[],[])) else(60,[],[]):=by
 subst ha hb;rfl
theorem sh2 {t n m:Int} {b:Bool} (hb:jI [n,m]=b):bs t [n,m]=if 1<=t∧t<=11 then(if(if t=1 then true else if t=2∨t=3∨t=11 then false else if t=4∨t=5 then b else if t=6∨t=9 then false else if t=10 then true else false) then(0,gC t [n,m]) else(61,[],[])) else(60,[],[]):=by
 subst hb;rfl
theorem sh3 {t:Int} {ps:List Int} (h3:3<=ps.length) {b:Bool} (hb:decide (1<=ps.length∧ps.length<=16)=b):bs t ps=if 1<=t∧t<=11 then(if(if t=1 then b else false) then(0,gC t ps) else(61,[],[])) else(60,[],[]):=by
 match ps,h3 with
 |_::_::_::r,_=>
  have h0:¬r.length+3=2:=by omega
  subst hb;unfold bs bB l7 jI;simp
theorem BS (t:Int) (ht:t=1∨t=2∨t=3∨t=4∨t=5∨t=6∨t=7∨t=8∨t=9∨t=10∨t=11) (ao:Option Addr) (c:Nat) (w:World) (hx:ar w ao (Is [])):
  Calls Tryz.prog 125 #[.int .u8 t,.slice ao ([]:List Int).length c] w (aP w (bs t [])):=by
 have HE:=Lib.hid (fun t=> @sh0 t);rcases ht with rfl|rfl|rfl|rfl|rfl|rfl|rfl|rfl|rfl|rfl|rfl
 all_goals
  go_enter Tryz.func125,Tryz.ntmps125;go_wp2_with (first|(go_at_call 142;refine(dX _ _ _).mono ?_;rintro e w' ⟨rfl,rfl⟩)|(go_at_call 144;refine(j8 _ _ _ (by omega)).mono ?_;rintro e w' ⟨ao',c',rfl,az,aN⟩)|(go_at_call 143;(with_reducible refine(j6 _ _).mono ?_);rintro e w' ⟨ao',c',rfl,az,aN⟩)|(go_at_call 143;(with_reducible refine(j7 _ _ _).mono ?_);rintro e w' ⟨ao',c',rfl,az,aN⟩));go_ret3
  rw[HE.out];first|exact aP.none _ _ _ (New.refl _)|exact aP.mk2 (Keeps.alloc _ _) (by assumption) (by assumption) (Keeps.alloc _ _) az aN ⟨rfl,by first|rfl|simp⟩ ⟨rfl,by first|rfl|simp⟩|exact aP.mk2 (Keeps.refl _ _) (by assumption) (by assumption) (Keeps.alloc _ _) az aN ⟨rfl,by first|rfl|simp⟩ ⟨rfl,by first|rfl|simp⟩|exact aP.mk2 (Keeps.alloc _ _) (by assumption) (by assumption) (Keeps.refl _ _) az aN ⟨rfl,by first|rfl|simp⟩ ⟨rfl,by first|rfl|simp⟩|exact aP.fst (Keeps.alloc _ _) az aN ⟨rfl,by first|rfl|simp⟩|exact aP.snd (Keeps.alloc _ _) az aN ⟨rfl,by first|rfl|simp⟩
theorem BT (t:Int) (ht:t=1∨t=2∨t=3∨t=4∨t=5∨t=6∨t=7∨t=8∨t=9∨t=10∨t=11) (n:Int) (ao:Option Addr) (c:Nat) (w:World) (hx:ar w ao (Is [n])):
  Calls Tryz.prog 125 #[.int .u8 t,.slice ao ([n]:List Int).length c] w (aP w (bs t [n])):=by
 obtain⟨b,off,rfl,hc⟩:=fK hx (i:=0) (by simp);simp only[Nat.add_zero,List.getElem_cons_zero] at hc;obtain⟨x,y,d1,d2,hh⟩:∃x y,decide (1<=n∧n<=16)=x∧decide (1<=n∧n<=64)=y∧(x=true∧y=true∧1<=n∧n<=16∨x=false∧y=true∧1<=n∧n<=64∨x=false∧y=false):=by
  refine⟨_,_,rfl,rfl,?_⟩;simp only[decide_eq_true_eq,decide_eq_false_iff_not];omega
 have HE:=Lib.hid (fun t=> @sh1 t n x y d1 d2);rcases hh with⟨rfl,rfl,h1,h2⟩|⟨rfl,rfl,-,-⟩|⟨rfl,rfl⟩<;>rcases ht with rfl|rfl|rfl|rfl|rfl|rfl|rfl|rfl|rfl|rfl|rfl
 all_goals
  go_enter Tryz.func125,Tryz.ntmps125;go_wp2_with (first|(go_at_call 142;refine(dX _ _ _).mono ?_;rintro e w' ⟨rfl,rfl⟩)|(go_at_call 144;refine(j8 _ _ _ (by omega)).mono ?_;rintro e w' ⟨ao',c',rfl,az,aN⟩)|(go_at_call 143;(with_reducible refine(j6 _ _).mono ?_);rintro e w' ⟨ao',c',rfl,az,aN⟩)|(go_at_call 143;(with_reducible refine(j7 _ _ _).mono ?_);rintro e w' ⟨ao',c',rfl,az,aN⟩));go_ret3
  rw[HE.out];first|exact aP.none _ _ _ (New.refl _)|exact aP.mk2 (Keeps.alloc _ _) (by assumption) (by assumption) (Keeps.alloc _ _) az aN ⟨rfl,by first|rfl|simp⟩ ⟨rfl,by first|rfl|simp⟩|exact aP.mk2 (Keeps.refl _ _) (by assumption) (by assumption) (Keeps.alloc _ _) az aN ⟨rfl,by first|rfl|simp⟩ ⟨rfl,by first|rfl|simp⟩|exact aP.mk2 (Keeps.alloc _ _) (by assumption) (by assumption) (Keeps.refl _ _) az aN ⟨rfl,by first|rfl|simp⟩ ⟨rfl,by first|rfl|simp⟩|exact aP.fst (Keeps.alloc _ _) az aN ⟨rfl,by first|rfl|simp⟩|exact aP.snd (Keeps.alloc _ _) az aN ⟨rfl,by first|rfl|simp⟩
theorem BU (t:Int) (ht:t=1∨t=2∨t=3∨t=4∨t=5∨t=6∨t=7∨t=8∨t=9∨t=10∨t=11) (n m:Int) (ao:Option Addr) (c:Nat) (w:World) (hx:ar w ao (Is [n,m])):
  Calls Tryz.prog 125 #[.int .u8 t,.slice ao ([n,m]:List Int).length c] w (aP w (bs t [n,m])):=by
 obtain⟨b,off,rfl,hc⟩:=fK hx (i:=0) (by simp);obtain⟨b',nD,e,hd⟩:=fK hx (i:=1) (by simp);simp only[Option.some.injEq,Addr.mk.injEq,and_true] at e;obtain⟨rfl,rfl⟩:=e;simp only[List.getElem_cons_zero,List.getElem_cons_succ] at hd;simp only[Nat.add_zero,List.getElem_cons_zero] at hc;have HT:=Lib.hid ht;have it1:¬t<1:=by omega
 have it2:¬11<t:=by omega
 have dt1:=decide_eq_false it1;have dt2:=decide_eq_false it2;clear ht;go_enter Tryz.func125,Tryz.ntmps125;go_upto_region 9 with((go_at_call 142;refine(dX _ _ _).mono ?_;rintro e w' ⟨rfl,rfl⟩))
 go_cut [10] (fun s w'=>s= .bool (jI [n,m])∧w'=w)
 case first=>
  by_cases h1:1<=n∧n<=16<;>by_cases h2:1<=m∧m<=64
  ·obtain⟨hb1,hb2⟩:=iP n m h1.1 h1.2 h2.1 h2.2;have d1:=decide_eq_true h1;have d2:=decide_eq_true h2;go_wp2_with (first|(go_at_call 142;refine(dX _ _ _).mono ?_;rintro e w' ⟨rfl,rfl⟩));go_meet
   case rel=>exact⟨by simp[jI,h1,h2],rfl⟩
  ·have d1:=decide_eq_true h1;have d2:=decide_eq_false h2;go_wp2_with (first|(go_at_call 142;refine(dX _ _ _).mono ?_;rintro e w' ⟨rfl,rfl⟩));go_meet
   case rel=>exact⟨by simp[jI];omega,rfl⟩
  all_goals
   have d1:=decide_eq_false h1;go_wp2_with (first|(go_at_call 142;refine(dX _ _ _).mono ?_;rintro e w' ⟨rfl,rfl⟩));go_meet
   case rel=>exact⟨by simp[jI];omega,rfl⟩
 case rest=>
  obtain⟨rfl,rfl⟩:=hcut;clear dt1 dt2 it1 it2;obtain⟨b,h,hh⟩:∃b,jI [n,m]=b∧(b=true∧1<=n∧n<=16∧1<=m∧m<=64∧n*m<=64∨b=false):=by
   refine⟨_,rfl,?_⟩;cases h:jI [n,m] with
   |false=>exact .inr rfl
   |true=>exact .inl ⟨rfl,by simpa[jI] using h⟩
  have HE:=Lib.hid (fun t=> @sh2 t n m _ h);have HB:=Lib.hid (iP n m);rcases hh with⟨rfl,h1,h2,h3,h4,h5⟩|rfl
  ·obtain⟨hb1,hb2⟩:=HB.out h1 h2 h3 h4;rcases HT.out with rfl|rfl|rfl|rfl|rfl|rfl|rfl|rfl|rfl|rfl|rfl
   all_goals
    go_wp2_with (first|(go_at_call 142;refine(dX _ _ _).mono ?_;rintro e w' ⟨rfl,rfl⟩)|(go_at_call 144;refine(j8 _ _ _ (by omega)).mono ?_;rintro e w' ⟨ao',c',rfl,az,aN⟩)|(go_at_call 143;(with_reducible refine(j6 _ _).mono ?_);rintro e w' ⟨ao',c',rfl,az,aN⟩)|(go_at_call 143;(with_reducible refine(j7 _ _ _).mono ?_);rintro e w' ⟨ao',c',rfl,az,aN⟩));go_ret3
    rw[HE.out];first|exact aP.none _ _ _ (New.refl _)|exact aP.mk2 (Keeps.alloc _ _) (by assumption) (by assumption) (Keeps.alloc _ _) az aN ⟨rfl,by first|rfl|simp⟩ ⟨rfl,by first|rfl|simp⟩|exact aP.mk2 (Keeps.refl _ _) (by assumption) (by assumption) (Keeps.alloc _ _) az aN ⟨rfl,by first|rfl|simp⟩ ⟨rfl,by first|rfl|simp⟩|exact aP.mk2 (Keeps.alloc _ _) (by assumption) (by assumption) (Keeps.refl _ _) az aN ⟨rfl,by first|rfl|simp⟩ ⟨rfl,by first|rfl|simp⟩|exact aP.fst (Keeps.alloc _ _) az aN ⟨rfl,by first|rfl|simp⟩|exact aP.snd (Keeps.alloc _ _) az aN ⟨rfl,by first|rfl|simp⟩
  ·rcases HT.out with rfl|rfl|rfl|rfl|rfl|rfl|rfl|rfl|rfl|rfl|rfl
   all_goals
    go_wp2_with (first|(go_at_call 142;refine(dX _ _ _).mono ?_;rintro e w' ⟨rfl,rfl⟩)|(go_at_call 144;refine(j8 _ _ _ (by omega)).mono ?_;rintro e w' ⟨ao',c',rfl,az,aN⟩)|(go_at_call 143;(with_reducible refine(j6 _ _).mono ?_);rintro e w' ⟨ao',c',rfl,az,aN⟩)|(go_at_call 143;(with_reducible refine(j7 _ _ _).mono ?_);rintro e w' ⟨ao',c',rfl,az,aN⟩));go_ret3
    rw[HE.out];first|exact aP.none _ _ _ (New.refl _)|exact aP.mk2 (Keeps.alloc _ _) (by assumption) (by assumption) (Keeps.alloc _ _) az aN ⟨rfl,by first|rfl|simp⟩ ⟨rfl,by first|rfl|simp⟩|exact aP.mk2 (Keeps.refl _ _) (by assumption) (by assumption) (Keeps.alloc _ _) az aN ⟨rfl,by first|rfl|simp⟩ ⟨rfl,by first|rfl|simp⟩|exact aP.mk2 (Keeps.alloc _ _) (by assumption) (by assumption) (Keeps.refl _ _) az aN ⟨rfl,by first|rfl|simp⟩ ⟨rfl,by first|rfl|simp⟩|exact aP.fst (Keeps.alloc _ _) az aN ⟨rfl,by first|rfl|simp⟩|exact aP.snd (Keeps.alloc _ _) az aN ⟨rfl,by first|rfl|simp⟩
theorem BV (t:Int) (ht:t=1∨t=2∨t=3∨t=4∨t=5∨t=6∨t=7∨t=8∨t=9∨t=10∨t=11) (ps:List Int) (ao:Option Addr) (c:Nat) (w:World) (hx:ar w ao (Is ps)) (h3:3<=ps.length) (hl:ps.length<=9223372036854775807):
  Calls Tryz.prog 125 #[.int .u8 t,.slice ao (ps:List Int).length c] w (aP w (bs t ps)):=by
 obtain⟨b,off,rfl,hc⟩:=fK hx (i:=0) (by omega);obtain⟨b',nD,e,hd⟩:=fK hx (i:=1) (by omega);simp only[Option.some.injEq,Addr.mk.injEq,and_true] at e;obtain⟨rfl,rfl⟩:=e;simp only[Nat.add_zero] at hc;generalize ps[0]=n at hc;generalize ps[1]=m at hd;have e1:((ps.length:Int)==1)=false:=beq_eq_false_iff_ne.2 (by omega);have e2:((ps.length:Int)==2)=false:=beq_eq_false_iff_ne.2 (by omega);have e0:((ps.length:Int)==0)=false:=beq_eq_false_iff_ne.2 (by omega);obtain⟨x,d1,d2⟩:∃x,decide (1<=(ps.length:Int)∧(ps.length:Int)<=16)=x∧decide (1<=ps.length∧ps.length<=16)=x:=⟨_,rfl,by simp only[decide_eq_decide];omega⟩
 have HE:=Lib.hid (fun t=> @sh3 t ps h3 x d2);clear d2;cases x<;>rcases ht with rfl|rfl|rfl|rfl|rfl|rfl|rfl|rfl|rfl|rfl|rfl
 all_goals
  go_enter Tryz.func125,Tryz.ntmps125;go_wp2_with (first|(go_at_call 142;refine(dX _ _ _).mono ?_;rintro e w' ⟨rfl,rfl⟩)|(go_at_call 144;refine(j8 _ _ _ (by omega)).mono ?_;rintro e w' ⟨ao',c',rfl,az,aN⟩)|(go_at_call 143;(with_reducible refine(j6 _ _).mono ?_);rintro e w' ⟨ao',c',rfl,az,aN⟩)|(go_at_call 143;(with_reducible refine(j7 _ _ _).mono ?_);rintro e w' ⟨ao',c',rfl,az,aN⟩));go_ret3
  rw[HE.out];first|exact aP.none _ _ _ (New.refl _)|exact aP.mk2 (Keeps.alloc _ _) (by assumption) (by assumption) (Keeps.alloc _ _) az aN ⟨rfl,by first|rfl|simp⟩ ⟨rfl,by first|rfl|simp⟩|exact aP.mk2 (Keeps.refl _ _) (by assumption) (by assumption) (Keeps.alloc _ _) az aN ⟨rfl,by first|rfl|simp⟩ ⟨rfl,by first|rfl|simp⟩|exact aP.mk2 (Keeps.alloc _ _) (by assumption) (by assumption) (Keeps.refl _ _) az aN ⟨rfl,by first|rfl|simp⟩ ⟨rfl,by first|rfl|simp⟩|exact aP.fst (Keeps.alloc _ _) az aN ⟨rfl,by first|rfl|simp⟩|exact aP.snd (Keeps.alloc _ _) az aN ⟨rfl,by first|rfl|simp⟩
theorem zw (tag:Int) (ao:Option Addr) (c:Nat) (ps:List Int) (w:World) (hx:ar w ao (Is ps)) (hl:ps.length<=9223372036854775807):
  Calls Tryz.prog 125 #[.int .u8 tag,.slice ao ps.length c] w (aP w (bs tag ps)):=by
 by_cases ht:1<=tag∧tag<=11
 ·have h:=gp ht.1 ht.2
  match ps,hx,hl with
  |[],hx,hl=>exact BS _ h ao c w hx
  |[n],hx,hl=>exact BT _ h n ao c w hx
  |[n,m],hx,hl=>exact BU _ h n m ao c w hx
  |n::m::q::r,hx,hl=>exact BV _ h _ ao c w hx (by simp) hl
 ·have HS:=Lib.hid (show bs tag ps=(60,[],[]) by unfold bs;rw[if_neg ht]);by_cases h1:tag<1
  rotate_left 1
  have h2:11<tag:=by omega
  all_goals
   clear ht;go_enter Tryz.func125,Tryz.ntmps125;go_wp2_with fail;go_ret3
   rw[HS.out];exact aP.none _ _ _ (New.refl _)
theorem dn {ps:List Int} {k:Int} (h:l7 ps k=true):∃n,ps=[n]∧1<=n∧n<=k:=by
 unfold l7 at h;split at h
 ·rename_i n;exact⟨n,rfl,by simpa using h⟩
 ·cases h
theorem gW {ps:List Int} (h:jI ps=true):∃n m,ps=[n,m]∧1<=n∧n<=16∧1<=m∧m<=64∧n*m<=64:=by
 unfold jI at h;split at h
 ·rename_i n m;exact⟨n,m,rfl,by simpa using h⟩
 ·cases h
theorem qg (tag:Int) (ao:Option Addr) (c:Nat) (ps:List Int) (w:World) (hx:ar w ao (Is ps)) (hl:ps.length<=9223372036854775807):
  Calls Tryz.prog 134 #[.int .u8 tag,.slice ao ps.length c] w (aP w (bs tag ps)):=by
 by_cases ht:1<=tag∧tag<=11
 ·obtain⟨t1,t2⟩:=ht;by_cases hg:bB tag ps=true
  ·have cw:=gp t1 t2;have hs:bs tag ps=(0,gC tag ps):=by unfold bs;rw[if_pos ⟨t1,t2⟩,if_pos hg]
   rw[hs];clear hs t1 t2;rcases cw with rfl|rfl|rfl|rfl|rfl|rfl|rfl|rfl|rfl|rfl|rfl
   ·have h:1<=ps.length∧ps.length<=16:=by simpa[bB] using hg
    exact Av 1 ao c ps w rfl hx h.1 h.2
   ·obtain⟨n,rfl,h1,h2⟩:=dn (ps:=ps) (k:=64) (by simpa[bB] using hg);exact Aw 2 ao c n w rfl hx h1 h2
   ·obtain⟨n,rfl,h1,h2⟩:=dn (ps:=ps) (k:=64) (by simpa[bB] using hg);exact Ax 3 ao c n w rfl hx h1 h2
   ·obtain⟨n,m,rfl,h1,h2,h3,h4,h5⟩:=gW (ps:=ps) (by simpa[bB] using hg);exact Ay 4 ao c n m w rfl hx h1 h2 h3 h4 (iP n m h1 h2 h3 h4).1 h5
   ·obtain⟨n,m,rfl,h1,h2,h3,h4,h5⟩:=gW (ps:=ps) (by simpa[bB] using hg);exact Az 5 ao c n m w rfl hx h1 h2 h3 h4 (iP n m h1 h2 h3 h4).1 h5
   ·obtain⟨n,rfl,h1,h2⟩:=dn (ps:=ps) (k:=16) (by simpa[bB] using hg);exact AA 6 ao c n w rfl hx h1 h2
   ·obtain rfl:ps=[]:=List.eq_nil_of_length_eq_zero (by simpa[bB] using hg);exact AB 7 ao c w rfl hx
   ·obtain rfl:ps=[]:=List.eq_nil_of_length_eq_zero (by simpa[bB] using hg);exact AC 8 ao c w rfl hx
   ·obtain⟨n,rfl,h1,h2⟩:=dn (ps:=ps) (k:=16) (by simpa[bB] using hg);exact AD 9 ao c n w rfl hx h1 h2
   ·have h:ps.length=2:=by simpa[bB] using hg
    exact zo 10 ao c ps w rfl hx (by omega) (by omega)
   ·obtain⟨n,rfl,h1,h2⟩:=dn (ps:=ps) (k:=64) (by simpa[bB] using hg);exact zp 11 ao c n w rfl hx h1 h2
  ·have hs:bs tag ps=(61,[],[]):=by unfold bs;rw[if_pos ⟨t1,t2⟩,if_neg hg]
   have HS:=Lib.hid hs;have hg':bB tag ps=false:=by simpa using hg
   have HG:=Lib.hid hg';clear hs hg hg';go_enter Tryz.func134,Tryz.ntmps134;go_wp2_with (go_at_call 152;refine(eg _ _ _ ps _ t1 t2 hx hl).mono ?_;rw[HG.out];rintro e w' ⟨rfl,nq,rfl⟩);go_ret3
   rw[HS.out];exact aP.none _ _ _ (Keeps.drewN w _)
 ·have hs:bs tag ps=(60,[],[]):=by unfold bs;rw[if_neg ht]
  have HS:=Lib.hid hs;clear hs;by_cases h1:tag<1
  ·clear ht;go_enter Tryz.func134,Tryz.ntmps134;go_wp2_with fail;go_ret3
   rw[HS.out];exact aP.none _ _ _ (New.refl _)
  ·have h2:11<tag:=by omega
   clear ht;go_enter Tryz.func134,Tryz.ntmps134;go_wp2_with fail;go_ret3
   rw[HS.out];exact aP.none _ _ _ (New.refl _)
theorem nh (w:World) (ao bo:Option Addr) (xs ys:List Int) (n m c d:Nat) (hx:ar w ao (Is xs)) (hy:ar w bo (Is ys)) (hn:n=xs.length) (hm:m=ys.length) (b:Bool) (hb:decide (xs=ys)=b)
   (lx:xs.length<=9223372036854775807):
    Calls Tryz.prog 30 #[.slice ao n c,.slice bo m d] w fun e w'=>e= .returned (.bool b)∧∃n,w'=w.drewN n:=by
  subst hn hm hb;exact qW w ao bo xs ys c d hx hy lx
def ws:List ByteArray:=[⟨#[102,105,108,116,101,114]⟩,⟨#[117,112]⟩,⟨#[100,111,119,110]⟩,⟨#[119,101,97,118,101]⟩,⟨#[117,110,119,101,97,118,101]⟩,⟨#[97,100,100]⟩,⟨#[113,117,111,116]⟩,⟨#[115,117,109]⟩,⟨#[99,111,112,121]⟩,⟨#[116,105,99,107]⟩,⟨#[100,114,111,112]⟩]
def wsV:Array Value:=#[.string ⟨#[102,105,108,116,101,114]⟩,.string ⟨#[117,112]⟩,.string ⟨#[100,111,119,110]⟩,.string ⟨#[119,101,97,118,101]⟩,.string ⟨#[117,110,119,101,97,118,101]⟩,.string ⟨#[97,100,100]⟩,.string ⟨#[113,117,111,116]⟩,.string ⟨#[115,117,109]⟩,.string ⟨#[99,111,112,121]⟩,.string ⟨#[116,105,99,107]⟩,.string ⟨#[100,114,111,112]⟩]
theorem zN:ws.length=11:=rfl
theorem uw (k:Nat) (h:k<11):wsV[k]? =some (.string (ws.getD k ByteArray.empty)):=by
 have hk:k=0∨k=1∨k=2∨k=3∨k=4∨k=5∨k=6∨k=7∨k=8∨k=9∨k=10:=by omega
 rcases hk with rfl|rfl|rfl|rfl|rfl|rfl|rfl|rfl|rfl|rfl|rfl<;>rfl
def rc (s:ByteArray):Int×Int:=match ws.findIdx? (fun u=>u.toList==s.toList) with
 |some k=>((k:Int)+1,0)
 |none=>(0,60)
def lf (t:Int):ByteArray×Int:=if 1<=t∧t<=11 then(ws.getD (t-1).toNat ByteArray.empty,0) else(ByteArray.empty,60)
theorem m7 {p:ByteArray->Bool} {l:List ByteArray} {k:Nat} (hk:k<l.length) (hno:∀j,j<k->p (l.getD j ByteArray.empty)=false) (hp:p (l.getD k ByteArray.empty)=true):l.findIdx? p=some k:=by
 rw[List.findIdx?_eq_some_iff_getElem];refine⟨hk,by simpa[hk] using hp,fun j hj=>?_⟩;have:=hno j hj;simpa[show j<l.length by omega] using this
theorem lR {p:ByteArray->Bool} {l:List ByteArray} (hno:∀j,j<l.length->p (l.getD j ByteArray.empty)=false):l.findIdx? p=none:=by
 rw[List.findIdx?_eq_none_iff];intro x hx;obtain⟨j,hj,rfl⟩:=List.getElem_of_mem hx;have:=hno j hj;simpa[hj] using this
set_option maxRecDepth 512 in
theorem qT (w:World):Calls Tryz.prog 118 #[] w fun e w'=>e= .returned (.slice (some ⟨w.heap.size,0,none⟩) 11 11)∧w.alloc (.cells wsV 9)=w':=by
 go_enter Tryz.func118,Tryz.ntmps118;go_wp2
 go_ret
 exact⟨rfl,rfl⟩
set_option maxRecDepth 512 in
theorem nk (w:World):Calls Tryz.prog 95 #[] w fun e w'=>e= .returned (.slice (some ⟨w.heap.size,0,none⟩) 11 11)∧w.alloc (.cells wsV 9)=w':=by
 go_enter Tryz.func95,Tryz.ntmps95;go_wp2
 go_ret
 exact⟨rfl,rfl⟩
def Cg (w:World) (r:Int×Int) (e:Ending) (w':World):Prop:=e= .returned (.tuple #[.int .u8 r.1,I r.2])∧New w w'
theorem wO (s:ByteArray) (w:World):Calls Tryz.prog 53 #[.string s] w (Cg w (rc s)):=by
 have gM:∀k,k<11->(w.alloc (.cells wsV 9)).cell? ⟨w.heap.size,k,none⟩=some (.string (ws.getD k ByteArray.empty)):=fun k hk=>by
  rw[World.cell?_alloc_new];exact uw k hk
 have HC:=Lib.hid gM;clear gM;go_enter Tryz.func53,Tryz.ntmps53;go_wp2_with (go_at_call 95;(with_reducible refine(nk _).mono ?_);rintro e w' ⟨rfl,rfl⟩);go_loopw [8] (fun i wr=>∃k:Nat,k<=11∧i= .int .i64 k∧(∀j,j<k->((ws.getD j ByteArray.empty).toList==s.toList)=false)∧wr=w.alloc (.cells wsV 9)) (fun i _=>11-(intOf i).toNat)
 case atStart=>exact⟨0,by omega,rfl,by omega,rfl⟩
 case round=>
  obtain⟨k,hk,rfl,di,rfl⟩:=hrel;have HA:=Lib.hid di;clear di;by_cases hk1:k<11
  ·have hc:=HC.out k hk1;obtain⟨u,hu⟩:∃u,u=ws.getD k ByteArray.empty:=⟨_,rfl⟩
   rw[<-hu] at hc;have HU:=Lib.hid hu;clear hu;go_wp2
   ·have Bz:(u.toList==s.toList)=true:=by assumption
    go_ret2
    have:=m7 (p:=fun u=>u.toList==s.toList) (l:=ws) (k:=k) (by rw[zN];omega) HA.out (by rw[<-HU.out];exact Bz);exact⟨by unfold rc;rw[this];simp[Int.add_comm],Keeps.alloc _ _⟩
   ·have hno:(u.toList==s.toList)=false:=by assumption
    go_roundw
    case rel=>
     refine⟨k+1,by omega,by go_num,fun j hj=>?_,(by first|rfl|trivial)⟩;by_cases e:j<k
     ·exact HA.out j e
     ·obtain rfl:j=k:=by omega
      rw[<-HU.out];exact hno
    case measure=>simp[intOf];omega
  ·obtain rfl:k=11:=by omega
   go_wp2
   go_ret2
   have:=lR (p:=fun u=>u.toList==s.toList) (l:=ws) HA.out;exact⟨by unfold rc;rw[this];rfl,Keeps.alloc _ _⟩
def ms (w:World) (r:ByteArray×Int) (e:Ending) (w':World):Prop:=e= .returned (.tuple #[.string r.1,I r.2])∧New w w'
theorem ui (t:Int) (h0:0<=t) (fC:t<=255) (w:World):Calls Tryz.prog 70 #[.int .u8 t] w (ms w (lf t)):=by
 have gM:∀k,k<11->(w.alloc (.cells wsV 9)).cell? ⟨w.heap.size,k,none⟩=some (.string (ws.getD k ByteArray.empty)):=fun k hk=>by
  rw[World.cell?_alloc_new];exact uw k hk
 have HC:=Lib.hid gM;clear gM;by_cases h1:1<=t∧t<=11
 ·obtain⟨h1,h2⟩:=h1;have hc:=HC.out (t-1).toNat (by omega);have hr:lf t=(ws.getD (t-1).toNat ByteArray.empty,0):=by unfold lf;rw[if_pos ⟨h1,h2⟩]
  have HR:=Lib.hid hr;clear hr;generalize ws.getD (t-1).toNat ByteArray.empty=u at hc HR;obtain⟨k,hk⟩:∃k:Nat,t=(k:Int)+1:=⟨(t-1).toNat,by omega⟩
  subst hk;have e:((k:Int)+1-1).toNat=k:=by omega
  rw[e] at hc;clear e;go_enter Tryz.func70,Tryz.ntmps70;go_wp2_with (go_at_call 95;(with_reducible refine(nk _).mono ?_);rintro e w' ⟨rfl,rfl⟩);go_ret2
  rw[HR.out];exact⟨rfl,Keeps.alloc _ _⟩
 ·have hr:lf t=(ByteArray.empty,60):=by unfold lf;rw[if_neg h1]
  have HR:=Lib.hid hr;clear hr;by_cases h3:t<1
  ·go_enter Tryz.func70,Tryz.ntmps70;go_wp2_with fail;go_ret2
   rw[HR.out];exact⟨rfl,New.refl _⟩
  ·have h4:11<t:=by omega
   go_enter Tryz.func70,Tryz.ntmps70;go_wp2_with fail;go_ret2
   rw[HR.out];exact⟨rfl,New.refl _⟩
open Go.Joins
def ct (x:GAct):List Value:=[.string x.name,.int .u8 x.tag,.slice x.a x.xs.length x.c]
def bS (x:GEdge):List Value:=[I x.f,I x.fp,I x.t,I x.tp,.slice x.a x.xs.length x.c]
def aH (x:GPort):List Value:=[.string x.name,I x.ac,I x.po]
abbrev Gr.cs (g:Gr):Array Value:=#[.string g.name,.slice g.aa g.acts.length g.ac,.slice g.ea g.edges.length g.ec,.slice g.ia g.ins.length g.ic,.slice g.oa g.outs.length g.oc]
abbrev Gr.v (g:Gr):Value:= .agg g.cs
structure GrAt (w:World) (g:Gr):Prop where
 sa:ar w g.aa (g.acts.flatMap ct)
 se:ar w g.ea (g.edges.flatMap bS)
 si:ar w g.ia (g.ins.flatMap aH)
 so:ar w g.oa (g.outs.flatMap aH)
 ax:∀x∈g.acts,ar w x.a (Is x.xs)
 ex:∀x∈g.edges,ar w x.a (Is x.xs)
theorem GrAt.new {w w':World} {g:Gr} (h:GrAt w g) (k:New w w'):GrAt w' g:=⟨h.sa.new k,h.se.new k,h.si.new k,h.so.new k,fun x hx=>(h.ax x hx).new k,fun x hx=>(h.ex x hx).new k⟩
structure GLen (g:Gr):Prop where
 a:g.acts.length<=9223372036854775807
 e:g.edges.length<=9223372036854775807
 i:g.ins.length<=9223372036854775807
 o:g.outs.length<=9223372036854775807
 ax:∀x∈g.acts,x.xs.length<=9223372036854775807∧x.name.size<=9223372036854775807
 ex:∀x∈g.edges,x.xs.length<=9223372036854775807
 ix:∀x∈g.ins,x.name.size<=9223372036854775807
 ox:∀x∈g.outs,x.name.size<=9223372036854775807
 n:g.name.size<=9223372036854775807
theorem gP {w:World} {ao:Option Addr} {l:List GAct} (h:ar w ao (l.flatMap ct)) {i:Nat} (hi:i<l.length):
  ∃b off,ao=some ⟨b,off,none⟩∧w.cell? ⟨b,off+i*3,none⟩=some (.string l[i].name)∧w.cell? ⟨b,off+i*3+1,none⟩=some (.int .u8 l[i].tag)∧w.cell? ⟨b,off+i*3+2,none⟩=some (.slice l[i].a l[i].xs.length l[i].c):=by
 obtain⟨b,off,e,k⟩:=qV (n:=3) (fun _=>rfl) (by decide) h hi;exact⟨b,off,e,k 0 (by decide),k 1 (by decide),k 2 (by decide)⟩
theorem fH {w:World} {ao:Option Addr} {l:List GEdge} (h:ar w ao (l.flatMap bS)) {i:Nat} (hi:i<l.length):
  ∃b off,ao=some ⟨b,off,none⟩∧w.cell? ⟨b,off+i*5,none⟩=some (I l[i].f)∧w.cell? ⟨b,off+i*5+1,none⟩=some (I l[i].fp)∧w.cell? ⟨b,off+i*5+2,none⟩=some (I l[i].t)∧w.cell? ⟨b,off+i*5+3,none⟩=some (I l[i].tp)∧w.cell? ⟨b,off+i*5+4,none⟩=some (.slice l[i].a l[i].xs.length l[i].c):=by
 obtain⟨b,off,e,k⟩:=qV (n:=5) (fun _=>rfl) (by decide) h hi;exact⟨b,off,e,k 0 (by decide),k 1 (by decide),k 2 (by decide),k 3 (by decide),k 4 (by decide)⟩
theorem ej {w:World} {ao:Option Addr} {l:List GPort} (h:ar w ao (l.flatMap aH)) {i:Nat} (hi:i<l.length):
  ∃b off,ao=some ⟨b,off,none⟩∧w.cell? ⟨b,off+i*3,none⟩=some (.string l[i].name)∧w.cell? ⟨b,off+i*3+1,none⟩=some (I l[i].ac)∧w.cell? ⟨b,off+i*3+2,none⟩=some (I l[i].po):=by
 obtain⟨b,off,e,k⟩:=qV (n:=3) (fun _=>rfl) (by decide) h hi;exact⟨b,off,e,k 0 (by decide),k 1 (by decide),k 2 (by decide)⟩
theorem gY {α:Type} {p:α->Bool} {l:List α} {k:Nat} (hk:k<l.length) (h:(l.take k).any p=false) (hx:p l[k]=false):(l.take (k+1)).any p=false:=by
 rw[List.take_succ_eq_append_getElem hk,List.any_append,h];simp[hx]
theorem jo {α:Type} {p:α->Bool} {l:List α} {k e:Nat} (hk:k<l.length) (hke:k<e) (hx:p l[k]=true):(l.take e).any p=true:=
 List.any_eq_true.2 ⟨l[k],by rw[List.mem_take_iff_getElem];exact⟨k,by omega,rfl⟩,hx⟩
theorem lB (w:World) (g:Gr) (e o:Nat) (a p:Int) (hg:GrAt w g) (hl:GLen g) (he:e<=g.edges.length) (ho:o<=g.outs.length):
  Calls Tryz.prog 136 #[g.v,I e,I o,I a,I p] w fun en w'=>en= .returned (.bool (aZ g e o a p))∧New w w':=by
 obtain⟨A,hA⟩:∃A,aZ g e o a p=A:=⟨_,rfl⟩
 rw[hA];unfold aZ at hA;have HA:=Lib.hid hA;have hse:=hg.se;have hso:=hg.so;have hle:=hl.e;have hlo:=hl.o;clear hA hg hl;obtain⟨ay,gaa,gac,ak,gea,gec,ah,gia,gic,aC,goa,goc,au⟩:=g;simp only at*;simp only[Gr.v,Gr.cs];go_enter Tryz.func136,Tryz.ntmps136;go_wp2_with fail;have hN0:New w (w.alloc (.cells #[.string ay,.slice gaa ak.length gac,.slice gea ah.length gec,.slice gia aC.length gic,.slice goa au.length goc] 26)):=(New.refl w).alloc _;have hbx:(w.alloc (.cells #[.string ay,.slice gaa ak.length gac,.slice gea ah.length gec,.slice gia aC.length gic,.slice goa au.length goc] 26)).heap[w.heap.size]? =some (.cells #[.string ay,.slice gaa ak.length gac,.slice gea ah.length gec,.slice gia aC.length gic,.slice goa au.length goc] 26 (0,0)):=heap_alloc_new w _;generalize(w.alloc (.cells #[.string ay,.slice gaa ak.length gac,.slice gea ah.length gec,.slice gia aC.length gic,.slice goa au.length goc] 26))=w0 at hN0 hbx ⊢;have x2:w0.cell? ⟨w.heap.size,2,none⟩=some (.slice gea ah.length gec):=by rw[cell_of_block hbx 2];simp
 have x4:w0.cell? ⟨w.heap.size,4,none⟩=some (.slice goa au.length goc):=by rw[cell_of_block hbx 4];simp
 clear hbx;go_loopw [11] (fun i wr=>∃k:Nat,k<=e∧i= .int .i64 k∧Hid ((ah.take k).any (fun x=>decide (x.f=a∧x.fp=p))=false)∧New w0 wr) (fun i _=>e-(intOf i).toNat)
 case atStart=>exact⟨0,by omega,rfl,Lib.hid (by simp),New.refl _⟩
 case round=>
  obtain⟨k,hk,rfl,HZ,hN⟩:=hrel;have y:=hN.cell x2;by_cases hk1:k<e
  ·have hk2:k<ah.length:=by omega
   obtain⟨b,off,hab,q0,q1,q2,q3,q4⟩:=fH (hse.new (hN0.trans hN)) hk2;have hk3:(k:Int)<(e:Int):=by omega
   have hk4:(k:Int)<(ah.length:Int):=by omega
   have hk5:decide (k<e)=true:=decide_eq_true hk1;have hbw:b<wr.heap.size:=World.block_lt_of_cell? wr _ q0;rw[hab] at y;clear hab;have HIT:Hid (decide (ah[k].f=a∧ah[k].fp=p)=true->A=true):=Lib.hid (fun hx=>by
    rw[<-HA.out,jo (l:=ah) (p:=fun x=>decide (x.f=a∧x.fp=p)) hk2 hk1 hx];simp)
   have NXT:Hid (decide (ah[k].f=a∧ah[k].fp=p)=false->(ah.take (k+1)).any (fun x=>decide (x.f=a∧x.fp=p))=false):=Lib.hid (fun hx=>gY (p:=fun x=>decide (x.f=a∧x.fp=p)) hk2 HZ.out hx);generalize ah[k]=x at q0 q1 q2 q3 q4 HIT NXT;by_cases h1:x.f=a
   ·have e1:(x.f==a)=true:=by simpa using h1
    by_cases h2:x.fp=p
    ·have e2:(x.fp==p)=true:=by simpa using h2
     have HT:=Lib.hid (HIT.out (decide_eq_true ⟨h1,h2⟩));clear h1 h2 NXT HIT;go_wp2_with fail;go_ret
     exact⟨by rw[HT.out];rfl,hN0.trans hN⟩
    ·have e2:(x.fp==p)=false:=by simpa using h2
     have HF:=Lib.hid (NXT.out (decide_eq_false (fun h=>h2 h.2)));clear h1 h2 NXT HIT;go_wp2_with fail;go_roundw
     case rel=>exact⟨k+1,by omega,by go_num,HF,hN⟩
     case measure=>simp[intOf];omega
   ·have e1:(x.f==a)=false:=by simpa using h1
    have HF:=Lib.hid (NXT.out (decide_eq_false (fun h=>h1 h.1)));clear h1 NXT HIT;go_wp2_with fail;go_roundw
    case rel=>exact⟨k+1,by omega,by go_num,HF,hN⟩
    case measure=>simp[intOf];omega
  ·have hke:k=e:=by omega
   have hd9:decide (k<e)=false:=decide_eq_false hk1;rw[hke] at HZ;clear hke hk hk1;have HZ1:=HZ;have hN1:=hN0.trans hN;have x4':=hN.cell x4;clear HZ y;go_wp2_with fail;obtain⟨wo,rfl⟩:∃wo,wo=wr:=⟨_,rfl⟩
   clear hN0 hN x4 x2;have hN0:=hN1;have x4:=x4';clear hN1 x4';go_loopw [12] (fun i wr=>∃k:Nat,k<=o∧i= .int .i64 k∧Hid ((au.take k).any (fun x=>decide (x.ac=a∧x.po=p))=false)∧New wo wr) (fun i _=>o-(intOf i).toNat)
   case atStart=>exact⟨0,by omega,rfl,Lib.hid (by simp),New.refl _⟩
   case round=>
    obtain⟨k,hk,rfl,HZ,hN⟩:=hrel;have y:=hN.cell x4;by_cases hk1:k<o
    ·have hk2:k<au.length:=by omega
     obtain⟨b,off,hab,q0,q1,q2⟩:=ej (hso.new (hN0.trans hN)) hk2;have hk3:(k:Int)<(o:Int):=by omega
     have hk4:(k:Int)<(au.length:Int):=by omega
     have hk5:decide (k<o)=true:=decide_eq_true hk1;have hbw:b<wr.heap.size:=World.block_lt_of_cell? wr _ q0;rw[hab] at y;clear hab;have HIT:Hid (decide (au[k].ac=a∧au[k].po=p)=true->A=true):=Lib.hid (fun hx=>by
      rw[<-HA.out,jo (l:=au) (p:=fun x=>decide (x.ac=a∧x.po=p)) hk2 hk1 hx];simp)
     have NXT:Hid (decide (au[k].ac=a∧au[k].po=p)=false->(au.take (k+1)).any (fun x=>decide (x.ac=a∧x.po=p))=false):=Lib.hid (fun hx=>gY (p:=fun x=>decide (x.ac=a∧x.po=p)) hk2 HZ.out hx);generalize au[k]=x at q0 q1 q2 HIT NXT;by_cases h1:x.ac=a
     ·have e1:(x.ac==a)=true:=by simpa using h1
      by_cases h2:x.po=p
      ·have e2:(x.po==p)=true:=by simpa using h2
       have HT:=Lib.hid (HIT.out (decide_eq_true ⟨h1,h2⟩));clear h1 h2 NXT HIT;go_wp2_with fail;go_ret
       exact⟨by rw[HT.out];rfl,hN0.trans hN⟩
      ·have e2:(x.po==p)=false:=by simpa using h2
       have HF:=Lib.hid (NXT.out (decide_eq_false (fun h=>h2 h.2)));clear h1 h2 NXT HIT;go_wp2_with fail;go_roundw
       case rel=>exact⟨k+1,by omega,by go_num,HF,hN⟩
       case measure=>simp[intOf];omega
     ·have e1:(x.ac==a)=false:=by simpa using h1
      have HF:=Lib.hid (NXT.out (decide_eq_false (fun h=>h1 h.1)));clear h1 NXT HIT;go_wp2_with fail;go_roundw
      case rel=>exact⟨k+1,by omega,by go_num,HF,hN⟩
      case measure=>simp[intOf];omega
    ·have hke:k=o:=by omega
     have hd9:decide (k<o)=false:=decide_eq_false hk1;rw[hke] at HZ;clear hke hk hk1;have HF:Hid (A=false):=Lib.hid (by rw[<-HA.out,HZ1.out,HZ.out];rfl);go_wp2_with fail;go_ret
     exact⟨by rw[HF.out];rfl,hN0.trans hN⟩
theorem mJ (w:World) (g:Gr) (e o:Nat) (a p:Int) (hg:GrAt w g) (hl:GLen g) (he:e<=g.edges.length) (ho:o<=g.ins.length):
  Calls Tryz.prog 137 #[g.v,I e,I o,I a,I p] w fun en w'=>en= .returned (.bool (bZ g e o a p))∧New w w':=by
 obtain⟨A,hA⟩:∃A,bZ g e o a p=A:=⟨_,rfl⟩
 rw[hA];unfold bZ at hA;have HA:=Lib.hid hA;have hse:=hg.se;have hso:=hg.si;have hle:=hl.e;have hlo:=hl.i;clear hA hg hl;obtain⟨ay,gaa,gac,ak,gea,gec,ah,gia,gic,aC,goa,goc,au⟩:=g;simp only at*;simp only[Gr.v,Gr.cs];go_enter Tryz.func137,Tryz.ntmps137;go_wp2_with fail;have hN0:New w (w.alloc (.cells #[.string ay,.slice gaa ak.length gac,.slice gea ah.length gec,.slice gia aC.length gic,.slice goa au.length goc] 26)):=(New.refl w).alloc _;have hbx:(w.alloc (.cells #[.string ay,.slice gaa ak.length gac,.slice gea ah.length gec,.slice gia aC.length gic,.slice goa au.length goc] 26)).heap[w.heap.size]? =some (.cells #[.string ay,.slice gaa ak.length gac,.slice gea ah.length gec,.slice gia aC.length gic,.slice goa au.length goc] 26 (0,0)):=heap_alloc_new w _;generalize(w.alloc (.cells #[.string ay,.slice gaa ak.length gac,.slice gea ah.length gec,.slice gia aC.length gic,.slice goa au.length goc] 26))=w0 at hN0 hbx ⊢;have x2:w0.cell? ⟨w.heap.size,2,none⟩=some (.slice gea ah.length gec):=by rw[cell_of_block hbx 2];simp
 have x3:w0.cell? ⟨w.heap.size,3,none⟩=some (.slice gia aC.length gic):=by rw[cell_of_block hbx 3];simp
 clear hbx;go_loopw [11] (fun i wr=>∃k:Nat,k<=e∧i= .int .i64 k∧Hid ((ah.take k).any (fun x=>decide (x.t=a∧x.tp=p))=false)∧New w0 wr) (fun i _=>e-(intOf i).toNat)
 case atStart=>exact⟨0,by omega,rfl,Lib.hid (by simp),New.refl _⟩
 case round=>
  obtain⟨k,hk,rfl,HZ,hN⟩:=hrel;have y:=hN.cell x2;by_cases hk1:k<e
  ·have hk2:k<ah.length:=by omega
   obtain⟨b,off,hab,q0,q1,q2,q3,q4⟩:=fH (hse.new (hN0.trans hN)) hk2;have hk3:(k:Int)<(e:Int):=by omega
   have hk4:(k:Int)<(ah.length:Int):=by omega
   have hk5:decide (k<e)=true:=decide_eq_true hk1;have hbw:b<wr.heap.size:=World.block_lt_of_cell? wr _ q0;rw[hab] at y;clear hab;have HIT:Hid (decide (ah[k].t=a∧ah[k].tp=p)=true->A=true):=Lib.hid (fun hx=>by
    rw[<-HA.out,jo (l:=ah) (p:=fun x=>decide (x.t=a∧x.tp=p)) hk2 hk1 hx];simp)
   have NXT:Hid (decide (ah[k].t=a∧ah[k].tp=p)=false->(ah.take (k+1)).any (fun x=>decide (x.t=a∧x.tp=p))=false):=Lib.hid (fun hx=>gY (p:=fun x=>decide (x.t=a∧x.tp=p)) hk2 HZ.out hx);generalize ah[k]=x at q0 q1 q2 q3 q4 HIT NXT;by_cases h1:x.t=a
   ·have e1:(x.t==a)=true:=by simpa using h1
    by_cases h2:x.tp=p
    ·have e2:(x.tp==p)=true:=by simpa using h2
     have HT:=Lib.hid (HIT.out (decide_eq_true ⟨h1,h2⟩));clear h1 h2 NXT HIT;go_wp2_with fail;go_ret
     exact⟨by rw[HT.out];rfl,hN0.trans hN⟩
    ·have e2:(x.tp==p)=false:=by simpa using h2
     have HF:=Lib.hid (NXT.out (decide_eq_false (fun h=>h2 h.2)));clear h1 h2 NXT HIT;go_wp2_with fail;go_roundw
     case rel=>exact⟨k+1,by omega,by go_num,HF,hN⟩
     case measure=>simp[intOf];omega
   ·have e1:(x.t==a)=false:=by simpa using h1
    have HF:=Lib.hid (NXT.out (decide_eq_false (fun h=>h1 h.1)));clear h1 NXT HIT;go_wp2_with fail;go_roundw
    case rel=>exact⟨k+1,by omega,by go_num,HF,hN⟩
    case measure=>simp[intOf];omega
  ·have hke:k=e:=by omega
   have hd9:decide (k<e)=false:=decide_eq_false hk1;rw[hke] at HZ;clear hke hk hk1;have HZ1:=HZ;have hN1:=hN0.trans hN;have x3':=hN.cell x3;clear HZ y;go_wp2_with fail;obtain⟨wo,rfl⟩:∃wo,wo=wr:=⟨_,rfl⟩
   clear hN0 hN x3 x2;have hN0:=hN1;have x3:=x3';clear hN1 x3';go_loopw [12] (fun i wr=>∃k:Nat,k<=o∧i= .int .i64 k∧Hid ((aC.take k).any (fun x=>decide (x.ac=a∧x.po=p))=false)∧New wo wr) (fun i _=>o-(intOf i).toNat)
   case atStart=>exact⟨0,by omega,rfl,Lib.hid (by simp),New.refl _⟩
   case round=>
    obtain⟨k,hk,rfl,HZ,hN⟩:=hrel;have y:=hN.cell x3;by_cases hk1:k<o
    ·have hk2:k<aC.length:=by omega
     obtain⟨b,off,hab,q0,q1,q2⟩:=ej (hso.new (hN0.trans hN)) hk2;have hk3:(k:Int)<(o:Int):=by omega
     have hk4:(k:Int)<(aC.length:Int):=by omega
     have hk5:decide (k<o)=true:=decide_eq_true hk1;have hbw:b<wr.heap.size:=World.block_lt_of_cell? wr _ q0;rw[hab] at y;clear hab;have HIT:Hid (decide (aC[k].ac=a∧aC[k].po=p)=true->A=true):=Lib.hid (fun hx=>by
      rw[<-HA.out,jo (l:=aC) (p:=fun x=>decide (x.ac=a∧x.po=p)) hk2 hk1 hx];simp)
     have NXT:Hid (decide (aC[k].ac=a∧aC[k].po=p)=false->(aC.take (k+1)).any (fun x=>decide (x.ac=a∧x.po=p))=false):=Lib.hid (fun hx=>gY (p:=fun x=>decide (x.ac=a∧x.po=p)) hk2 HZ.out hx);generalize aC[k]=x at q0 q1 q2 HIT NXT;by_cases h1:x.ac=a
     ·have e1:(x.ac==a)=true:=by simpa using h1
      by_cases h2:x.po=p
      ·have e2:(x.po==p)=true:=by simpa using h2
       have HT:=Lib.hid (HIT.out (decide_eq_true ⟨h1,h2⟩));clear h1 h2 NXT HIT;go_wp2_with fail;go_ret
       exact⟨by rw[HT.out];rfl,hN0.trans hN⟩
      ·have e2:(x.po==p)=false:=by simpa using h2
       have HF:=Lib.hid (NXT.out (decide_eq_false (fun h=>h2 h.2)));clear h1 h2 NXT HIT;go_wp2_with fail;go_roundw
       case rel=>exact⟨k+1,by omega,by go_num,HF,hN⟩
       case measure=>simp[intOf];omega
     ·have e1:(x.ac==a)=false:=by simpa using h1
      have HF:=Lib.hid (NXT.out (decide_eq_false (fun h=>h1 h.1)));clear h1 NXT HIT;go_wp2_with fail;go_roundw
      case rel=>exact⟨k+1,by omega,by go_num,HF,hN⟩
      case measure=>simp[intOf];omega
    ·have hke:k=o:=by omega
     have hd9:decide (k<o)=false:=decide_eq_false hk1;rw[hke] at HZ;clear hke hk hk1;have HF:Hid (A=false):=Lib.hid (by rw[<-HA.out,HZ1.out,HZ.out];rfl);go_wp2_with fail;go_ret
     exact⟨by rw[HF.out];rfl,hN0.trans hN⟩
theorem oZ (w:World) (g:Gr) (i:Nat) (hg:GrAt w g) (hl:GLen g) (hi:i<g.acts.length):
  Calls Tryz.prog 138 #[g.v,I i] w fun en w'=>en= .returned (.tuple #[I (nIn g.acts[i]),I (cr g.acts[i])])∧New w w':=by
 have hsa:=hg.sa;have hxx:=hg.ax _ (List.getElem_mem hi);have hxn:=(hl.ax _ (List.getElem_mem hi)).1;have hla:=hl.a;clear hg hl;obtain⟨ay,gaa,gac,ak,gea,gec,ah,gia,gic,aC,goa,goc,au⟩:=g;simp only at*;simp only[Gr.v,Gr.cs];have hcs:∀w1,New w w1->Calls Tryz.prog 134 #[.int .u8 ak[i].tag,.slice ak[i].a ak[i].xs.length ak[i].c] w1 (aP w1 (bs ak[i].tag ak[i].xs)):=fun w1 kk=>qg ak[i].tag ak[i].a ak[i].c ak[i].xs w1 (hxx.new kk) hxn
 have HR:Hid (I (nIn ak[i])=I ((bs ak[i].tag ak[i].xs).2.1.length:Int)∧I (cr ak[i])=I ((bs ak[i].tag ak[i].xs).2.2.length:Int)):=Lib.hid ⟨rfl,rfl⟩;obtain⟨b,off,hab,q0,q1,q2⟩:=gP hsa hi;rw[HR.out.1,HR.out.2];have hi0:(i:Int)<(ak.length:Int):=by have hi':i<ak.length:=hi;omega
 generalize bs ak[i].tag ak[i].xs=sh at hcs HR ⊢;generalize ak[i]=x at q0 q1 q2 hcs HR hxn;clear HR hxx hsa hxn;have HAB:=Lib.hid hab;clear hab;go_enter Tryz.func138,Tryz.ntmps138;go_wp2_with fail;have hN0:New w (w.alloc (.cells #[.string ay,.slice gaa ak.length gac,.slice gea ah.length gec,.slice gia aC.length gic,.slice goa au.length goc] 26)):=(New.refl w).alloc _;have hbx:(w.alloc (.cells #[.string ay,.slice gaa ak.length gac,.slice gea ah.length gec,.slice gia aC.length gic,.slice goa au.length goc] 26)).heap[w.heap.size]? =some (.cells #[.string ay,.slice gaa ak.length gac,.slice gea ah.length gec,.slice gia aC.length gic,.slice goa au.length goc] 26 (0,0)):=heap_alloc_new w _;generalize(w.alloc (.cells #[.string ay,.slice gaa ak.length gac,.slice gea ah.length gec,.slice gia aC.length gic,.slice goa au.length goc] 26))=w0 at hN0 hbx ⊢;have x1:w0.cell? ⟨w.heap.size,1,none⟩=some (.slice gaa ak.length gac):=by rw[cell_of_block hbx 1];simp
 clear hbx;rw[HAB.out] at x1;replace q0:=hN0.cell q0;replace q1:=hN0.cell q1;replace q2:=hN0.cell q2;have Du:∀w1,New w0 w1->Calls Tryz.prog 134 #[.int .u8 x.tag,.slice x.a x.xs.length x.c] w1 (aP w1 sh):=fun w1 k=>hcs w1 (hN0.trans k)
 go_region_held3 (fun w'=>w'.cell? ⟨w.heap.size,1,none⟩=some (.slice (some ⟨b,off,none⟩) ak.length gac)∧w'.cell? ⟨b,off+i*3+1,none⟩=some (.int .u8 x.tag)∧w'.cell? ⟨b,off+i*3+2,none⟩=some (.slice x.a x.xs.length x.c)∧New w0 w')
  ((refine⟨New.cell (w:=w0) ?_ x1,New.cell (w:=w0) ?_ q1,New.cell (w:=w0) ?_ q2,?_⟩<;>(repeat(first|exact New.refl w0|refine New.drew ?_|exact n2|refine New.trans ?_ n2))))
  ((go_at_call 134;refine(Du _ ((New.refl w0).drew)).mono ?_;rintro e w2 ⟨a1,ca,a2,cb,rfl,_,_,_,n2⟩))
 rename_i hSX;have hNX:=hN0.trans hSX.2.2.2;simp only[Exit.then];go_wp2_with fail;exact bodyPost_ret (v:= .tuple #[I (sh.2.1.length:Int),I (sh.2.2.length:Int)]) (by simp[results,Tryz.results138,go_sem]) rfl ⟨rfl,hNX⟩
theorem me (w:World) (g:Gr) (a p:Int) (out tk:Bool) (hg:GrAt w g) (hl:GLen g):
  Calls Tryz.prog 135 #[g.v,I a,I p,.bool out,.bool tk] w fun en w'=>en= .returned (I (dp g (fun x=>if out then cr x else nIn x) tk a p))∧New w w':=by
 have hla:=hl.a;by_cases h:0<=a∧a<g.acts.length
 ·obtain⟨h1,h2⟩:=h;obtain⟨i,rfl⟩:=Int.eq_ofNat_of_zero_le h1;have hi:i<g.acts.length:=by omega
  have hr:=fun W (k:New w W)=>oZ W g i (hg.new k) hl hi
  have he:dp g (fun x=>if out then cr x else nIn x) tk (i:Int) p=if 0<=p∧p<((if out then cr g.acts[i] else nIn g.acts[i]:Nat):Int) then(if tk then 86 else 0) else 85:=by
   unfold dp;rw[dif_pos ⟨h1,h2⟩];simp
  rw[he];generalize nIn g.acts[i]=ni at hr ⊢;generalize cr g.acts[i]=no at hr ⊢;clear he hg hl h1;obtain⟨ay,gaa,gac,ak,gea,gec,ah,gia,gic,aC,goa,goc,au⟩:=g;simp only at*;simp only[Gr.v,Gr.cs] at hr ⊢;have d1:decide ((i:Int)<0)=false:=decide_eq_false (by omega);obtain⟨F,hF⟩:∃F:Int,(if 0<=p∧p<((if out then no else ni:Nat):Int) then(if tk then 86 else 0) else 85)=F:=⟨_,rfl⟩
  rw[hF];have HF:=Lib.hid hF;clear hF;go_enter Tryz.func135,Tryz.ntmps135;go_wp2_with fail;have hN0:New w (w.alloc (.cells #[.string ay,.slice gaa ak.length gac,.slice gea ah.length gec,.slice gia aC.length gic,.slice goa au.length goc] 26)):=(New.refl w).alloc _;have hbx:(w.alloc (.cells #[.string ay,.slice gaa ak.length gac,.slice gea ah.length gec,.slice gia aC.length gic,.slice goa au.length goc] 26)).heap[w.heap.size]? =some (.cells #[.string ay,.slice gaa ak.length gac,.slice gea ah.length gec,.slice gia aC.length gic,.slice goa au.length goc] 26 (0,0)):=heap_alloc_new w _;generalize(w.alloc (.cells #[.string ay,.slice gaa ak.length gac,.slice gea ah.length gec,.slice gia aC.length gic,.slice goa au.length goc] 26))=w0 at hN0 hbx ⊢;have x0:w0.cell? ⟨w.heap.size,0,none⟩=some (.string ay):=by rw[cell_of_block hbx 0];simp
  have x1:w0.cell? ⟨w.heap.size,1,none⟩=some (.slice gaa ak.length gac):=by rw[cell_of_block hbx 1];simp
  have x2:w0.cell? ⟨w.heap.size,2,none⟩=some (.slice gea ah.length gec):=by rw[cell_of_block hbx 2];simp
  have x3:w0.cell? ⟨w.heap.size,3,none⟩=some (.slice gia aC.length gic):=by rw[cell_of_block hbx 3];simp
  have x4:w0.cell? ⟨w.heap.size,4,none⟩=some (.slice goa au.length goc):=by rw[cell_of_block hbx 4];simp
  clear hbx;refine(hr w0 hN0).mono ?_;rintro e w2 ⟨rfl,k2⟩;cases out
  ·by_cases hp0:p<0
   ·obtain rfl:85=F:=by rw[<-HF.out];exact(if_neg (by omega)).symm
    go_wp2_with fail;go_ret
    exact⟨rfl,hN0.trans k2⟩
   by_cases hp1:p<((ni:Nat):Int)
   ·obtain rfl:(if tk then 86 else 0)=F:=by rw[<-HF.out];exact(if_pos ⟨by omega,hp1⟩).symm
    cases tk
    all_goals
     go_wp2_with fail;go_ret
     exact⟨rfl,hN0.trans k2⟩
   ·obtain rfl:85=F:=by rw[<-HF.out];exact(if_neg (fun h=>hp1 h.2)).symm
    go_wp2_with fail;go_ret
    exact⟨rfl,hN0.trans k2⟩
  ·by_cases hp0:p<0
   ·obtain rfl:85=F:=by rw[<-HF.out];exact(if_neg (by omega)).symm
    go_wp2_with fail;go_ret
    exact⟨rfl,hN0.trans k2⟩
   by_cases hp1:p<((no:Nat):Int)
   ·obtain rfl:(if tk then 86 else 0)=F:=by rw[<-HF.out];exact(if_pos ⟨by omega,hp1⟩).symm
    cases tk
    all_goals
     go_wp2_with fail;go_ret
     exact⟨rfl,hN0.trans k2⟩
   ·obtain rfl:85=F:=by rw[<-HF.out];exact(if_neg (fun h=>hp1 h.2)).symm
    go_wp2_with fail;go_ret
    exact⟨rfl,hN0.trans k2⟩
 ·have he:dp g (fun x=>if out then cr x else nIn x) tk a p=84:=by unfold dp;rw[dif_neg h]
  rw[he];clear he hg hl;obtain⟨ay,gaa,gac,ak,gea,gec,ah,gia,gic,aC,goa,goc,au⟩:=g;simp only at*;simp only[Gr.v,Gr.cs];by_cases h1:a<0
  ·skip
   go_enter Tryz.func135,Tryz.ntmps135;go_wp2_with fail;go_ret
   exact⟨rfl,(New.refl w).alloc _⟩
  ·have h2:(ak.length:Int)<=a:=by omega
   go_enter Tryz.func135,Tryz.ntmps135;go_wp2_with fail;go_ret
   exact⟨rfl,(New.refl w).alloc _⟩
theorem jq {s t:ByteArray} :aB s=aB t ↔ s=t:=by
 refine⟨fun h=>?_,fun h=>by rw[h]⟩;have inj:∀(l m:List UInt8),l.map (fun b=>(b.toNat:Int))=m.map (fun b=>(b.toNat:Int))->l=m:=by
  intro l;induction l with
  |nil=>intro m h;cases m with
   |nil=>rfl
   |cons y m=>simp at h
  |cons x l ih=>intro m h;cases m with
   |nil=>simp at h
   |cons y m=>
    simp only[List.map_cons,List.cons.injEq] at h;have hx:x.toNat=y.toNat:=by have:=h.1;omega
    rw[ih m h.2,UInt8.toNat_inj.1 hx]
 have:=inj _ _ h;apply ByteArray.ext;exact Array.toList_inj.1 this
theorem nL {s t:ByteArray} (h:s=t):(s.toList==t.toList)=true:=by rw[h];simp
theorem qZ {s t:ByteArray} (h:¬s=t):(s.toList==t.toList)=false:=by
 rcases hx:(s.toList==t.toList) with _|_
 ·rfl
 ·exfalso
  apply h;have h1:s.toList=t.toList:=by simpa using hx
  rw[ByteArray.toList_eq,ByteArray.toList_eq] at h1;apply ByteArray.ext;exact Array.toList_inj.1 h1
def cU {α:Type} (f:α->ByteArray) (l:List α) (k:Nat) (s:ByteArray):Bool:=(l.take k).any (fun x=>decide (aB (f x)=aB s))
theorem sf (g:Gr) (a i o:Nat) (s:ByteArray):(aw g a i o).any (fun t=>decide (aB t=aB s))=(cU GAct.name g.acts a s||(cU GPort.name g.ins i s||cU GPort.name g.outs o s)):=by
 unfold aw cU;simp only[List.any_append,List.any_map,Function.comp_def]
theorem lA (w:World) (g:Gr) (ka ki ko:Nat) (s:ByteArray) (hg:GrAt w g) (hl:GLen g) (ha:ka<=g.acts.length) (hi:ki<=g.ins.length) (ho:ko<=g.outs.length):
  Calls Tryz.prog 133 #[g.v,I ka,I ki,I ko,.string s] w fun en w'=>en= .returned (.bool ((aw g ka ki ko).any (fun t=>decide (aB t=aB s))))∧New w w':=by
 rw[sf];obtain⟨A,hA⟩:∃A,(cU GAct.name g.acts ka s||(cU GPort.name g.ins ki s||cU GPort.name g.outs ko s))=A:=⟨_,rfl⟩
 rw[hA];have HA:=Lib.hid hA;have hsa:=hg.sa;have hsi:=hg.si;have hso:=hg.so;have hla:=hl.a;have hli:=hl.i;have hlo:=hl.o;clear hA hg hl;obtain⟨ay,gaa,gac,ak,gea,gec,ah,gia,gic,aC,goa,goc,au⟩:=g;simp only at*;simp only[Gr.v,Gr.cs];go_enter Tryz.func133,Tryz.ntmps133;go_wp2_with fail;have hN0:New w (w.alloc (.cells #[.string ay,.slice gaa ak.length gac,.slice gea ah.length gec,.slice gia aC.length gic,.slice goa au.length goc] 26)):=(New.refl w).alloc _;have hbx:(w.alloc (.cells #[.string ay,.slice gaa ak.length gac,.slice gea ah.length gec,.slice gia aC.length gic,.slice goa au.length goc] 26)).heap[w.heap.size]? =some (.cells #[.string ay,.slice gaa ak.length gac,.slice gea ah.length gec,.slice gia aC.length gic,.slice goa au.length goc] 26 (0,0)):=heap_alloc_new w _;generalize(w.alloc (.cells #[.string ay,.slice gaa ak.length gac,.slice gea ah.length gec,.slice gia aC.length gic,.slice goa au.length goc] 26))=w0 at hN0 hbx ⊢;have x1:w0.cell? ⟨w.heap.size,1,none⟩=some (.slice gaa ak.length gac):=by rw[cell_of_block hbx 1];simp
 have x3:w0.cell? ⟨w.heap.size,3,none⟩=some (.slice gia aC.length gic):=by rw[cell_of_block hbx 3];simp
 have x4:w0.cell? ⟨w.heap.size,4,none⟩=some (.slice goa au.length goc):=by rw[cell_of_block hbx 4];simp
 clear hbx;go_loopw [11] (fun i wr=>∃k:Nat,k<=ka∧i= .int .i64 k∧Hid (cU GAct.name ak k s=false)∧New w0 wr) (fun i _=>ka-(intOf i).toNat)
 case atStart=>exact⟨0,by omega,rfl,Lib.hid (by simp[cU]),New.refl _⟩
 case round=>
  obtain⟨k,hk,rfl,HZ,hN⟩:=hrel;have y:=hN.cell x1;by_cases hk1:k<ka
  ·have hk2:k<ak.length:=by omega
   obtain⟨b,off,hab,q0,q1,q2⟩:=gP (hsa.new (hN0.trans hN)) hk2;have hk3:(k:Int)<(ka:Int):=by omega
   have hk4:(k:Int)<(ak.length:Int):=by omega
   have hk5:decide (k<ka)=true:=decide_eq_true hk1;have hbw:b<wr.heap.size:=World.block_lt_of_cell? wr _ q0;rw[hab] at y;clear hab;have HIT:Hid (ak[k].name=s->A=true):=Lib.hid (fun hx=>by
    have h:cU GAct.name ak ka s=true:=jo (l:=ak) hk2 hk1 (by rw[hx];simp);rw[<-HA.out,h];simp)
   have NXT:Hid (ak[k].name≠s->cU GAct.name ak (k+1) s=false):=Lib.hid (fun hx=>gY hk2 HZ.out (decide_eq_false (fun h=>hx (jq.1 h))));generalize ak[k]=x at q0 q1 q2 HIT NXT;by_cases h1:x.name=s
   ·have e2:=nL h1;have HT:=Lib.hid (HIT.out h1);clear h1 NXT HIT;go_wp2_with fail;go_ret
    exact⟨by rw[HT.out];rfl,hN0.trans hN⟩
   ·have e2:=qZ h1;have HF:=Lib.hid (NXT.out h1);clear h1 NXT HIT;go_wp2_with fail;go_roundw
    case rel=>exact⟨k+1,by omega,by go_num,HF,hN⟩
    case measure=>simp[intOf];omega
  ·have hke:k=ka:=by omega
   have hd9:decide (k<ka)=false:=decide_eq_false hk1;rw[hke] at HZ;clear hke hk hk1;have HZ1:=HZ;have hN1:=hN0.trans hN;have x3':=hN.cell x3;have x4':=hN.cell x4;clear HZ y;go_wp2_with fail;obtain⟨wo,rfl⟩:∃wo,wo=wr:=⟨_,rfl⟩
   clear hN0 hN x1 x3 x4;have hN0:=hN1;have x3:=x3';have x4:=x4';clear hN1 x3' x4';go_loopw [12] (fun i wr=>∃k:Nat,k<=ki∧i= .int .i64 k∧Hid (cU GPort.name aC k s=false)∧New wo wr) (fun i _=>ki-(intOf i).toNat)
   case atStart=>exact⟨0,by omega,rfl,Lib.hid (by simp[cU]),New.refl _⟩
   case round=>
    obtain⟨k,hk,rfl,HZ,hN⟩:=hrel;have y:=hN.cell x3;by_cases hk1:k<ki
    ·have hk2:k<aC.length:=by omega
     obtain⟨b,off,hab,q0,q1,q2⟩:=ej (hsi.new (hN0.trans hN)) hk2;have hk3:(k:Int)<(ki:Int):=by omega
     have hk4:(k:Int)<(aC.length:Int):=by omega
     have hk5:decide (k<ki)=true:=decide_eq_true hk1;have hbw:b<wr.heap.size:=World.block_lt_of_cell? wr _ q0;rw[hab] at y;clear hab;have HIT:Hid (aC[k].name=s->A=true):=Lib.hid (fun hx=>by
      have h:cU GPort.name aC ki s=true:=jo (l:=aC) hk2 hk1 (by rw[hx];simp);rw[<-HA.out,h];simp)
     have NXT:Hid (aC[k].name≠s->cU GPort.name aC (k+1) s=false):=Lib.hid (fun hx=>gY hk2 HZ.out (decide_eq_false (fun h=>hx (jq.1 h))));generalize aC[k]=x at q0 q1 q2 HIT NXT;by_cases h1:x.name=s
     ·have e2:=nL h1;have HT:=Lib.hid (HIT.out h1);clear h1 NXT HIT;go_wp2_with fail;go_ret
      exact⟨by rw[HT.out];rfl,hN0.trans hN⟩
     ·have e2:=qZ h1;have HF:=Lib.hid (NXT.out h1);clear h1 NXT HIT;go_wp2_with fail;go_roundw
      case rel=>exact⟨k+1,by omega,by go_num,HF,hN⟩
      case measure=>simp[intOf];omega
    ·have hke:k=ki:=by omega
     have hd9:decide (k<ki)=false:=decide_eq_false hk1;rw[hke] at HZ;clear hke hk hk1;obtain⟨wp,rfl⟩:∃wp,wp=wo:=⟨_,rfl⟩
     have HZ2:=HZ;have hN1:=hN0.trans hN;have x4':=hN.cell x4;clear HZ y;go_wp2_with fail;obtain⟨wo,rfl⟩:∃wo,wo=wr:=⟨_,rfl⟩
     clear hN0 hN x3 x4;have hN0:=hN1;have x4:=x4';clear hN1 x4';go_loopw [13] (fun i wr=>∃k:Nat,k<=ko∧i= .int .i64 k∧Hid (cU GPort.name au k s=false)∧New wo wr) (fun i _=>ko-(intOf i).toNat)
     case atStart=>exact⟨0,by omega,rfl,Lib.hid (by simp[cU]),New.refl _⟩
     case round=>
      obtain⟨k,hk,rfl,HZ,hN⟩:=hrel;have y:=hN.cell x4;by_cases hk1:k<ko
      ·have hk2:k<au.length:=by omega
       obtain⟨b,off,hab,q0,q1,q2⟩:=ej (hso.new (hN0.trans hN)) hk2;have hk3:(k:Int)<(ko:Int):=by omega
       have hk4:(k:Int)<(au.length:Int):=by omega
       have hk5:decide (k<ko)=true:=decide_eq_true hk1;have hbw:b<wr.heap.size:=World.block_lt_of_cell? wr _ q0;rw[hab] at y;clear hab;have HIT:Hid (au[k].name=s->A=true):=Lib.hid (fun hx=>by
        have h:cU GPort.name au ko s=true:=jo (l:=au) hk2 hk1 (by rw[hx];simp);rw[<-HA.out,h];simp)
       have NXT:Hid (au[k].name≠s->cU GPort.name au (k+1) s=false):=Lib.hid (fun hx=>gY hk2 HZ.out (decide_eq_false (fun h=>hx (jq.1 h))));generalize au[k]=x at q0 q1 q2 HIT NXT;by_cases h1:x.name=s
       ·have e2:=nL h1;have HT:=Lib.hid (HIT.out h1);clear h1 NXT HIT;go_wp2_with fail;go_ret
        exact⟨by rw[HT.out];rfl,hN0.trans hN⟩
       ·have e2:=qZ h1;have HF:=Lib.hid (NXT.out h1);clear h1 NXT HIT;go_wp2_with fail;go_roundw
        case rel=>exact⟨k+1,by omega,by go_num,HF,hN⟩
        case measure=>simp[intOf];omega
      ·have hke:k=ko:=by omega
       have hd9:decide (k<ko)=false:=decide_eq_false hk1;rw[hke] at HZ;clear hke hk hk1;have HF:Hid (A=false):=Lib.hid (by rw[<-HA.out,HZ1.out,HZ2.out,HZ.out];rfl);go_wp2_with fail;go_ret
       exact⟨by rw[HF.out];rfl,hN0.trans hN⟩
def xU (f:Int×Int×Int×Int):Value:= .agg #[I f.1,.int .u8 f.2.1,I f.2.2.1,I f.2.2.2]
def iG (g:Gr):Int×Int×Int×Int:=
 if 32<g.acts.length then(81,1,32,0)
 else if 96<g.edges.length then(81,2,96,0)
 else if 16<g.ins.length then(81,3,16,0)
 else if 16<g.outs.length then(81,4,16,0)
 else(0,0,0,0)
theorem aG (w:World) (o:Obj):(w.alloc o).heap.size=w.heap.size+1:=by
 show(w.heap.push o).size=_
 rw[Array.size_push]
theorem wM (w:World) (g:Gr) (hl:GLen g):
  Calls Tryz.prog 102 #[g.v] w fun en w'=>en= .returned (xU (iG g))∧New w w':=by
 have hla:=hl.a;have hle:=hl.e;have hli:=hl.i;have hlo:=hl.o;clear hl;unfold iG;obtain⟨ay,gaa,gac,ak,gea,gec,ah,gia,gic,aC,goa,goc,au⟩:=g;simp only at*;simp only[Gr.v,Gr.cs];by_cases h0:32<ak.length
 ·rw[if_pos h0];have d0:decide ((32:Int)<(ak.length:Int))=true:=decide_eq_true (by omega);clear h0;go_enter Tryz.func102,Tryz.ntmps102;go_wp2_with fail;exact bodyPost_ret (v:= .agg #[I 81,.int .u8 1,I 32,I 0]) (by simp[results,Tryz.results102,go_sem]) rfl ⟨rfl,((New.refl w).alloc _).alloc _⟩
 ·rw[if_neg h0];by_cases h1:96<ah.length
  ·rw[if_pos h1];have d0:decide ((32:Int)<(ak.length:Int))=false:=decide_eq_false (by omega);have d1:decide ((96:Int)<(ah.length:Int))=true:=decide_eq_true (by omega);clear h0 h1;go_enter Tryz.func102,Tryz.ntmps102;go_wp2_with fail;exact bodyPost_ret (v:= .agg #[I 81,.int .u8 2,I 96,I 0]) (by simp[results,Tryz.results102,go_sem]) rfl ⟨rfl,((New.refl w).alloc _).alloc _⟩
  ·rw[if_neg h1];by_cases h2:16<aC.length
   ·rw[if_pos h2];have d0:decide ((32:Int)<(ak.length:Int))=false:=decide_eq_false (by omega);have d1:decide ((96:Int)<(ah.length:Int))=false:=decide_eq_false (by omega);have d2:decide ((16:Int)<(aC.length:Int))=true:=decide_eq_true (by omega);clear h0 h1 h2;go_enter Tryz.func102,Tryz.ntmps102;go_wp2_with fail;exact bodyPost_ret (v:= .agg #[I 81,.int .u8 3,I 16,I 0]) (by simp[results,Tryz.results102,go_sem]) rfl ⟨rfl,((New.refl w).alloc _).alloc _⟩
   ·rw[if_neg h2];by_cases h3:16<au.length
    ·rw[if_pos h3];have d0:decide ((32:Int)<(ak.length:Int))=false:=decide_eq_false (by omega);have d1:decide ((96:Int)<(ah.length:Int))=false:=decide_eq_false (by omega);have d2:decide ((16:Int)<(aC.length:Int))=false:=decide_eq_false (by omega);have d3:decide ((16:Int)<(au.length:Int))=true:=decide_eq_true (by omega);clear h0 h1 h2 h3;go_enter Tryz.func102,Tryz.ntmps102;go_wp2_with fail;exact bodyPost_ret (v:= .agg #[I 81,.int .u8 4,I 16,I 0]) (by simp[results,Tryz.results102,go_sem]) rfl ⟨rfl,((New.refl w).alloc _).alloc _⟩
    ·rw[if_neg h3];have d0:decide ((32:Int)<(ak.length:Int))=false:=decide_eq_false (by omega);have d1:decide ((96:Int)<(ah.length:Int))=false:=decide_eq_false (by omega);have d2:decide ((16:Int)<(aC.length:Int))=false:=decide_eq_false (by omega);have d3:decide ((16:Int)<(au.length:Int))=false:=decide_eq_false (by omega);clear h0 h1 h2 h3;go_enter Tryz.func102,Tryz.ntmps102;go_wp2_with fail;exact bodyPost_ret (v:= .agg #[I 0,.int .u8 0,I 0,I 0]) (by simp[results,Tryz.results102,go_sem]) rfl ⟨rfl,((New.refl w).alloc _).alloc _⟩
theorem ua (w:World) (g:Gr) (i:Nat) (hg:GrAt w g) (hl:GLen g) (hi:i<g.acts.length):
  Calls Tryz.prog 103 #[g.v,I i] w fun en w'=>en= .returned (I (fo g i g.acts[i]).1)∧New w w':=by
 have hsa:=hg.sa;have hla:=hl.a;have hxn:=(hl.ax _ (List.getElem_mem hi)).1;have hxs:=(hl.ax _ (List.getElem_mem hi)).2;have HN:∀W (k:New w W),Calls Tryz.prog 133 #[g.v,I i,I 0,I 0,.string g.acts[i].name] W fun en w'=>en= .returned (.bool ((aw g i 0 0).any (fun t=>decide (aB t=aB g.acts[i].name))))∧New W w':=
  fun W k=>by simpa using lA W g i 0 0 g.acts[i].name (hg.new k) hl (by omega) (by omega) (by omega)
 have HO:∀W (k:New w W),Calls Tryz.prog 134 #[.int .u8 g.acts[i].tag,.slice g.acts[i].a g.acts[i].xs.length g.acts[i].c] W (aP W (bs g.acts[i].tag g.acts[i].xs)):=
  fun W k=>qg _ _ _ _ W ((hg.ax _ (List.getElem_mem hi)).new k) hxn
 have HNM:∀W,Calls Tryz.prog 80 #[.string g.acts[i].name] W fun e w'=>e= .returned (.bool (aQ g.acts[i].name))∧New W w':=fun W=>kI W _ hxs
 have hE:(fo g i g.acts[i]).1=if aQ g.acts[i].name=false then 82 else if(aw g i 0 0).any (fun t=>decide (aB t=aB g.acts[i].name)) then 83 else(bs g.acts[i].tag g.acts[i].xs).1:=by
  unfold fo cP;by_cases h1:aQ g.acts[i].name=false
  ·simp[h1]
  ·by_cases h2:(aw g i 0 0).any (fun t=>decide (aB t=aB g.acts[i].name))=true
   ·simp only[h1,h2];simp
   ·simp only[h1,h2];simp
 rw[hE];clear hE;generalize((aw g i 0 0).any (fun t=>decide (aB t=aB g.acts[i].name)))=tk at HN ⊢;generalize bs g.acts[i].tag g.acts[i].xs=sh at HO ⊢;obtain⟨b,off,hab,q0,q1,q2⟩:=gP hsa hi;have hi0:(i:Int)<(g.acts.length:Int):=by omega
 have hbw:b<w.heap.size:=World.block_lt_of_cell? w _ q0;generalize g.acts[i]=x at q0 q1 q2 HN HO HNM hxn hxs ⊢;generalize aQ x.name=nb at HNM ⊢;clear hg hl hsa;obtain⟨ay,gaa,gac,ak,gea,gec,ah,gia,gic,aC,goa,goc,au⟩:=g;simp only at HN hab hi hi0 hla;simp only[Gr.v,Gr.cs] at HN ⊢;subst hab;clear hxn hxs;cases nb with
 |false=>
  rw[if_pos rfl];go_enter Tryz.func103,Tryz.ntmps103;go_wp2_with fail;have hs0:(w.alloc (.cells #[.string ay,.slice (some ⟨b,off,none⟩) ak.length gac,.slice gea ah.length gec,.slice gia aC.length gic,.slice goa au.length goc] 26)).heap.size=w.heap.size+1:=aG _ _;have hN0:New w (w.alloc (.cells #[.string ay,.slice (some ⟨b,off,none⟩) ak.length gac,.slice gea ah.length gec,.slice gia aC.length gic,.slice goa au.length goc] 26)):=(New.refl w).alloc _;have hbx:(w.alloc (.cells #[.string ay,.slice (some ⟨b,off,none⟩) ak.length gac,.slice gea ah.length gec,.slice gia aC.length gic,.slice goa au.length goc] 26)).heap[w.heap.size]? =some (.cells #[.string ay,.slice (some ⟨b,off,none⟩) ak.length gac,.slice gea ah.length gec,.slice gia aC.length gic,.slice goa au.length goc] 26 (0,0)):=heap_alloc_new w _;generalize(w.alloc (.cells #[.string ay,.slice (some ⟨b,off,none⟩) ak.length gac,.slice gea ah.length gec,.slice gia aC.length gic,.slice goa au.length goc] 26))=w0 at hN0 hbx hs0 ⊢;have x0:w0.cell? ⟨w.heap.size,0,none⟩=some (.string ay):=by rw[cell_of_block hbx 0];simp
  have x1:w0.cell? ⟨w.heap.size,1,none⟩=some (.slice (some ⟨b,off,none⟩) ak.length gac):=by rw[cell_of_block hbx 1];simp
  have x2:w0.cell? ⟨w.heap.size,2,none⟩=some (.slice gea ah.length gec):=by rw[cell_of_block hbx 2];simp
  have x3:w0.cell? ⟨w.heap.size,3,none⟩=some (.slice gia aC.length gic):=by rw[cell_of_block hbx 3];simp
  have x4:w0.cell? ⟨w.heap.size,4,none⟩=some (.slice goa au.length goc):=by rw[cell_of_block hbx 4];simp
  clear hbx;replace q0:=hN0.cell q0;replace q1:=hN0.cell q1;replace q2:=hN0.cell q2;have hB0:w.heap.size<w0.heap.size:=World.block_lt_of_cell? w0 _ x0;have hN1:New w0 (w0.alloc (.cells #[.string x.name,.int .u8 x.tag,.slice x.a x.xs.length x.c] 63)):=(New.refl w0).alloc _;have hbx:(w0.alloc (.cells #[.string x.name,.int .u8 x.tag,.slice x.a x.xs.length x.c] 63)).heap[w0.heap.size]? =some (.cells #[.string x.name,.int .u8 x.tag,.slice x.a x.xs.length x.c] 63 (0,0)):=heap_alloc_new w0 _;generalize(w0.alloc (.cells #[.string x.name,.int .u8 x.tag,.slice x.a x.xs.length x.c] 63))=w1 at hN1 hbx ⊢;have y0:w1.cell? ⟨w0.heap.size,0,none⟩=some (.string x.name):=by rw[cell_of_block hbx 0];simp
  have y1:w1.cell? ⟨w0.heap.size,1,none⟩=some (.int .u8 x.tag):=by rw[cell_of_block hbx 1];simp
  have y2:w1.cell? ⟨w0.heap.size,2,none⟩=some (.slice x.a x.xs.length x.c):=by rw[cell_of_block hbx 2];simp
  replace x0:=hN1.cell x0;replace x1:=hN1.cell x1;replace x2:=hN1.cell x2;replace x3:=hN1.cell x3;replace x4:=hN1.cell x4;have k1:=hN0.trans hN1;rw[hs0] at y0 y1 y2;clear hN0 hN1 hbx q0 q1 q2 hs0 hB0;refine(HNM w1).mono ?_;rintro e w2 ⟨rfl,k2⟩;go_wp2_with fail;go_ret
  exact⟨rfl,k1.trans k2⟩
 |true=>
  rw[if_neg (by simp)];cases tk with
  |true=>
   rw[if_pos rfl];go_enter Tryz.func103,Tryz.ntmps103;go_wp2_with fail;have hs0:(w.alloc (.cells #[.string ay,.slice (some ⟨b,off,none⟩) ak.length gac,.slice gea ah.length gec,.slice gia aC.length gic,.slice goa au.length goc] 26)).heap.size=w.heap.size+1:=aG _ _;have hN0:New w (w.alloc (.cells #[.string ay,.slice (some ⟨b,off,none⟩) ak.length gac,.slice gea ah.length gec,.slice gia aC.length gic,.slice goa au.length goc] 26)):=(New.refl w).alloc _;have hbx:(w.alloc (.cells #[.string ay,.slice (some ⟨b,off,none⟩) ak.length gac,.slice gea ah.length gec,.slice gia aC.length gic,.slice goa au.length goc] 26)).heap[w.heap.size]? =some (.cells #[.string ay,.slice (some ⟨b,off,none⟩) ak.length gac,.slice gea ah.length gec,.slice gia aC.length gic,.slice goa au.length goc] 26 (0,0)):=heap_alloc_new w _;generalize(w.alloc (.cells #[.string ay,.slice (some ⟨b,off,none⟩) ak.length gac,.slice gea ah.length gec,.slice gia aC.length gic,.slice goa au.length goc] 26))=w0 at hN0 hbx hs0 ⊢;have x0:w0.cell? ⟨w.heap.size,0,none⟩=some (.string ay):=by rw[cell_of_block hbx 0];simp
   have x1:w0.cell? ⟨w.heap.size,1,none⟩=some (.slice (some ⟨b,off,none⟩) ak.length gac):=by rw[cell_of_block hbx 1];simp
   have x2:w0.cell? ⟨w.heap.size,2,none⟩=some (.slice gea ah.length gec):=by rw[cell_of_block hbx 2];simp
   have x3:w0.cell? ⟨w.heap.size,3,none⟩=some (.slice gia aC.length gic):=by rw[cell_of_block hbx 3];simp
   have x4:w0.cell? ⟨w.heap.size,4,none⟩=some (.slice goa au.length goc):=by rw[cell_of_block hbx 4];simp
   clear hbx;replace q0:=hN0.cell q0;replace q1:=hN0.cell q1;replace q2:=hN0.cell q2;have hB0:w.heap.size<w0.heap.size:=World.block_lt_of_cell? w0 _ x0;have hN1:New w0 (w0.alloc (.cells #[.string x.name,.int .u8 x.tag,.slice x.a x.xs.length x.c] 63)):=(New.refl w0).alloc _;have hbx:(w0.alloc (.cells #[.string x.name,.int .u8 x.tag,.slice x.a x.xs.length x.c] 63)).heap[w0.heap.size]? =some (.cells #[.string x.name,.int .u8 x.tag,.slice x.a x.xs.length x.c] 63 (0,0)):=heap_alloc_new w0 _;generalize(w0.alloc (.cells #[.string x.name,.int .u8 x.tag,.slice x.a x.xs.length x.c] 63))=w1 at hN1 hbx ⊢;have y0:w1.cell? ⟨w0.heap.size,0,none⟩=some (.string x.name):=by rw[cell_of_block hbx 0];simp
   have y1:w1.cell? ⟨w0.heap.size,1,none⟩=some (.int .u8 x.tag):=by rw[cell_of_block hbx 1];simp
   have y2:w1.cell? ⟨w0.heap.size,2,none⟩=some (.slice x.a x.xs.length x.c):=by rw[cell_of_block hbx 2];simp
   replace x0:=hN1.cell x0;replace x1:=hN1.cell x1;replace x2:=hN1.cell x2;replace x3:=hN1.cell x3;replace x4:=hN1.cell x4;have k1:=hN0.trans hN1;rw[hs0] at y0 y1 y2;clear hN0 hN1 hbx q0 q1 q2 hs0 hB0;refine(HNM w1).mono ?_;rintro e w2 ⟨rfl,k2⟩;replace x0:=k2.cell x0;replace x1:=k2.cell x1;replace x2:=k2.cell x2;replace x3:=k2.cell x3;replace x4:=k2.cell x4;replace y0:=k2.cell y0;replace y1:=k2.cell y1;replace y2:=k2.cell y2;replace k1:=k1.trans k2;clear k2;go_wp2_with fail;refine(HN w2 k1).mono ?_;rintro e w3 ⟨rfl,k3⟩;go_wp2_with fail;go_ret
   exact⟨rfl,k1.trans k3⟩
  |false=>
   rw[if_neg (by simp)];go_enter Tryz.func103,Tryz.ntmps103;go_wp2_with fail;have hs0:(w.alloc (.cells #[.string ay,.slice (some ⟨b,off,none⟩) ak.length gac,.slice gea ah.length gec,.slice gia aC.length gic,.slice goa au.length goc] 26)).heap.size=w.heap.size+1:=aG _ _;have hN0:New w (w.alloc (.cells #[.string ay,.slice (some ⟨b,off,none⟩) ak.length gac,.slice gea ah.length gec,.slice gia aC.length gic,.slice goa au.length goc] 26)):=(New.refl w).alloc _;have hbx:(w.alloc (.cells #[.string ay,.slice (some ⟨b,off,none⟩) ak.length gac,.slice gea ah.length gec,.slice gia aC.length gic,.slice goa au.length goc] 26)).heap[w.heap.size]? =some (.cells #[.string ay,.slice (some ⟨b,off,none⟩) ak.length gac,.slice gea ah.length gec,.slice gia aC.length gic,.slice goa au.length goc] 26 (0,0)):=heap_alloc_new w _;generalize(w.alloc (.cells #[.string ay,.slice (some ⟨b,off,none⟩) ak.length gac,.slice gea ah.length gec,.slice gia aC.length gic,.slice goa au.length goc] 26))=w0 at hN0 hbx hs0 ⊢;have x0:w0.cell? ⟨w.heap.size,0,none⟩=some (.string ay):=by rw[cell_of_block hbx 0];simp
   have x1:w0.cell? ⟨w.heap.size,1,none⟩=some (.slice (some ⟨b,off,none⟩) ak.length gac):=by rw[cell_of_block hbx 1];simp
   have x2:w0.cell? ⟨w.heap.size,2,none⟩=some (.slice gea ah.length gec):=by rw[cell_of_block hbx 2];simp
   have x3:w0.cell? ⟨w.heap.size,3,none⟩=some (.slice gia aC.length gic):=by rw[cell_of_block hbx 3];simp
   have x4:w0.cell? ⟨w.heap.size,4,none⟩=some (.slice goa au.length goc):=by rw[cell_of_block hbx 4];simp
   clear hbx;replace q0:=hN0.cell q0;replace q1:=hN0.cell q1;replace q2:=hN0.cell q2;have hB0:w.heap.size<w0.heap.size:=World.block_lt_of_cell? w0 _ x0;have hN1:New w0 (w0.alloc (.cells #[.string x.name,.int .u8 x.tag,.slice x.a x.xs.length x.c] 63)):=(New.refl w0).alloc _;have hbx:(w0.alloc (.cells #[.string x.name,.int .u8 x.tag,.slice x.a x.xs.length x.c] 63)).heap[w0.heap.size]? =some (.cells #[.string x.name,.int .u8 x.tag,.slice x.a x.xs.length x.c] 63 (0,0)):=heap_alloc_new w0 _;generalize(w0.alloc (.cells #[.string x.name,.int .u8 x.tag,.slice x.a x.xs.length x.c] 63))=w1 at hN1 hbx ⊢;have y0:w1.cell? ⟨w0.heap.size,0,none⟩=some (.string x.name):=by rw[cell_of_block hbx 0];simp
   have y1:w1.cell? ⟨w0.heap.size,1,none⟩=some (.int .u8 x.tag):=by rw[cell_of_block hbx 1];simp
   have y2:w1.cell? ⟨w0.heap.size,2,none⟩=some (.slice x.a x.xs.length x.c):=by rw[cell_of_block hbx 2];simp
   replace x0:=hN1.cell x0;replace x1:=hN1.cell x1;replace x2:=hN1.cell x2;replace x3:=hN1.cell x3;replace x4:=hN1.cell x4;have k1:=hN0.trans hN1;rw[hs0] at y0 y1 y2;clear hN0 hN1 hbx q0 q1 q2 hs0 hB0;refine(HNM w1).mono ?_;rintro e w2 ⟨rfl,k2⟩;replace x0:=k2.cell x0;replace x1:=k2.cell x1;replace x2:=k2.cell x2;replace x3:=k2.cell x3;replace x4:=k2.cell x4;replace y0:=k2.cell y0;replace y1:=k2.cell y1;replace y2:=k2.cell y2;replace k1:=k1.trans k2;clear k2;go_wp2_with fail;refine(HN w2 k1).mono ?_;rintro e w3 ⟨rfl,k3⟩;replace y1:=k3.cell y1;replace y2:=k3.cell y2;replace k1:=k1.trans k3;clear k3;go_wp2_with fail;refine(HO w3 k1).mono ?_;rintro e w4 ⟨aa,ca,ab,cb,rfl,_,_,_,k4⟩;go_wp2_with fail;go_ret
   exact⟨rfl,k1.trans k4⟩
end Go.Proofs.YtnedmonlofbahaaGreatDoor
