/-
  LexR, LexS, LexU: what is wanted of them.
-/
import Derived.Test.YtnedmonlofbahaaGreatDoorDwA
import Derived.Deep.DeepCutAuto
set_option maxRecDepth 100000
set_option maxHeartbeats 16000000
namespace Go.Proofs.YtnedmonlofbahaaGreatDoor
open Go Go.RowKit Go.Joins
set_option linter.all false
theorem qm (l:List UInt8) (i:Nat) (h:i<l.length):bY 0 (l.take (i+1))=bY 0 (l.take i)*10+(l[i].toNat-48):=by
 rw[List.take_succ,List.getElem?_eq_getElem h];exact ql 0 _ _
theorem jJ (l:List UInt8) (h:l.all aq=true) (hl:l.length<=19):bY 0 l<10000000000000000000:=by
 have h1:=ve l 0 h;have h2:(10:Nat)^l.length<=10^19:=Nat.pow_le_pow_right (by omega) hl;have h3:(10:Nat)^19=10000000000000000000:=by decide
 omega
theorem pq {l:List UInt8} (h:l.all aq=true) (i:Nat):(l.take i).all aq=true:=by
 rw[List.all_eq_true] at h ⊢;exact fun x hx=>h x (List.mem_of_mem_take hx)
theorem zz {w w':World} {a x:Option Addr} {v B y z:Nat} {b:Bool} {T:TypeId} {fr:Nat×Nat} (h:ar w a (Is (dgs v))) (hB:w.heap[B]? =some (.cells #[.bool b,.slice x y z] T fr)) (k:Keeps (fun k=>k=B) w w'):ar w' a (Is (dgs v)):=by
 by_cases h0:nd v=0
 ·have e:dgs v=[]:=by unfold dgs;rw[h0];rfl
  rw[e];exact ar.nil _ _
 ·refine h.keeps k (fun ad had hb=>?_);subst had;unfold dgs at h;obtain⟨bb,oo,ee,qq⟩:=jX h (j:=0) (by omega);cases ee
  simp only at hb;subst hb;rw[cell_of_block hB] at qq
  match oo,qq with
  |0,qq=>simp at qq
  |1,qq=>simp at qq
  |oo+2,qq=>simp at qq
def mq (w:World) (D:List UInt8) (e:Ending) (w':World):Prop:=
 (match fU D with
  |some n=>e= .returned (.tuple #[I n,.bool true])
  |none=>e= .returned (.tuple #[I 0,.bool false]))∧New w w'
theorem AZ (w:World):(w.alloc (.cells #[.bool false,.slice none 0 0] 221)).heap[w.heap.size]? =some (.cells #[.bool false,.slice none 0 0] 221 (0,0)):=iw w _ _
theorem sA (w:World) (s:ByteArray) (dl:List UInt8) (hs:s.data.toList=45::dl) (hne:dl≠[]) (hd:dl.all aq=true) (hsz:s.size<=1048577) (h2:2<=dl.length) (h0:dl.head? =some 48):
  Calls Tryz.prog 132 #[.string s] w fun e w'=>e= .returned (.tuple #[I 0,.bool false])∧New w w':=by
 have aU:=am s;have gd:0<s.size:=by rw[<-aU,hs];simp
 have hb0:s[0]=45:=by
  have:=bQ s 0 gd;rw[<-this];unfold af;rw[hs];rfl
 have hsI:(0:Int)<(s.size:Int):=by omega
 have vU:(1:Int)<=(s.size:Int):=by omega
 have hdE:decide (s=ByteArray.empty)=false:=decide_eq_false (by rintro rfl;simp at gd);have e45:((s[0].toNat:Int)==45)=true:=by rw[hb0];rfl
 obtain⟨d,hdd⟩:∃d,s.extract 1 s.size=d:=⟨_,rfl⟩
 have hdl:d.data.toList=dl:=by
  rw[<-hdd,dq,hs];show dl.take _=dl
  exact List.take_of_length_le (by rw[<-aU,hs];simp)
 have HDD:=Lib.hid hdd;have hds:d.size=dl.length:=by rw[<-am,hdl]
 have hdp:0<d.size:=by rw[hds];exact List.length_pos_iff.2 hne
 have hd0:d[0]=dl.head hne:=by
  have:=bQ d 0 hdp;rw[<-this];unfold af;rw[hdl];cases dl with
  |nil=>exact absurd rfl hne
  |cons c r=>rfl
 have vR:decide (d=ByteArray.empty)=false:=decide_eq_false (by rintro rfl;simp at hdp);have hdI:(0:Int)<(d.size:Int):=by omega
 have c1:(1:Int)<(d.size:Int):=by omega
 have c2:((d[0].toNat:Int)==48)=true:=by
  rw[hd0];cases dl with
  |nil=>exact absurd rfl hne
  |cons c r=>simp only[List.head?_cons,Option.some.injEq] at h0;simp only[List.head_cons];rw[h0];rfl
 clear hdl hds hd0 hb0 hs aU hd hne;go_enter Tryz.func132,Tryz.ntmps132;go_wp2_with fail;go_ret2
 exact⟨rfl,New.refl _⟩
theorem sB (w:World) (s:ByteArray) (dl:List UInt8) (hs:s.data.toList=dl) (hne:dl≠[]) (hd:dl.all aq=true) (hsz:s.size<=1048577) (h2:2<=dl.length) (h0:dl.head? =some 48):
  Calls Tryz.prog 132 #[.string s] w fun e w'=>e= .returned (.tuple #[I 0,.bool false])∧New w w':=by
 have aU:=am s;have gd:0<s.size:=by rw[<-aU,hs];exact List.length_pos_iff.2 hne
 have hb0:s[0]=dl.head hne:=by
  have:=bQ s 0 gd;rw[<-this];unfold af;rw[hs];cases dl with|nil=>exact absurd rfl hne|cons c r=>rfl
 have hsI:(0:Int)<(s.size:Int):=by omega
 have vU:(1:Int)<=(s.size:Int):=by omega
 have hdE:decide (s=ByteArray.empty)=false:=decide_eq_false (by rintro rfl;simp at gd);have hdg:aq (dl.head hne)=true:=(List.all_eq_true.1 hd) _ (List.head_mem hne);have hdr:=(bq _).1 hdg;have e45:((s[0].toNat:Int)==45)=false:=by
  rw[hb0];simpa using fun h:((dl.head hne).toNat:Int)=45=>by omega
 obtain⟨d,hdd⟩:∃d,s=d:=⟨_,rfl⟩
 have hdl:d.data.toList=dl:=by rw[<-hdd];exact hs
 have hds:d.size=dl.length:=by rw[<-am,hdl]
 have hdp:0<d.size:=by rw[hds];exact List.length_pos_iff.2 hne
 have hd0:d[0]=dl.head hne:=by
  have:=bQ d 0 hdp;rw[<-this];unfold af;rw[hdl];cases dl with
  |nil=>exact absurd rfl hne
  |cons c r=>rfl
 have vR:decide (d=ByteArray.empty)=false:=decide_eq_false (by rintro rfl;simp at hdp);have hdI:(0:Int)<(d.size:Int):=by omega
 have c1:(1:Int)<(d.size:Int):=by omega
 have c2:((d[0].toNat:Int)==48)=true:=by
  rw[hd0];cases dl with
  |nil=>exact absurd rfl hne
  |cons c r=>simp only[List.head?_cons,Option.some.injEq] at h0;simp only[List.head_cons];rw[h0];rfl
 clear hdl hds hd0 hb0 hs aU hd hne hdr hdg;subst hdd;go_enter Tryz.func132,Tryz.ntmps132;go_wp2_with fail;go_ret2
 exact⟨rfl,New.refl _⟩
theorem sE (w:World) (s:ByteArray) (dl:List UInt8) (hs:s.data.toList=45::dl) (hne:dl≠[]) (hd:dl.all aq=true) (hsz:s.size<=1048577) (hz:dl=[48]):
  Calls Tryz.prog 132 #[.string s] w fun e w'=>e= .returned (.tuple #[I 0,.bool false])∧New w w':=by
 have aU:=am s;have gd:0<s.size:=by rw[<-aU,hs];simp
 have hb0:s[0]=45:=by
  have:=bQ s 0 gd;rw[<-this];unfold af;rw[hs];rfl
 have hsI:(0:Int)<(s.size:Int):=by omega
 have vU:(1:Int)<=(s.size:Int):=by omega
 have hdE:decide (s=ByteArray.empty)=false:=decide_eq_false (by rintro rfl;simp at gd);have e45:((s[0].toNat:Int)==45)=true:=by rw[hb0];rfl
 obtain⟨d,hdd⟩:∃d,s.extract 1 s.size=d:=⟨_,rfl⟩
 have hdl:d.data.toList=dl:=by
  rw[<-hdd,dq,hs];show dl.take _=dl
  exact List.take_of_length_le (by rw[<-aU,hs];simp)
 have HDD:=Lib.hid hdd;have hds:d.size=dl.length:=by rw[<-am,hdl]
 have hdp:0<d.size:=by rw[hds];exact List.length_pos_iff.2 hne
 have hd0:d[0]=dl.head hne:=by
  have:=bQ d 0 hdp;rw[<-this];unfold af;rw[hdl];cases dl with
  |nil=>exact absurd rfl hne
  |cons c r=>rfl
 have vR:decide (d=ByteArray.empty)=false:=decide_eq_false (by rintro rfl;simp at hdp);have hdI:(0:Int)<(d.size:Int):=by omega
 have c1:¬(1:Int)<(d.size:Int):=by rw[hds,hz];decide
 have c3:(d.toList==[48])=true:=by rw[beq_iff_eq,ByteArray.toList_eq,hdl,hz]
 clear hdl hds hd0 hb0 hs aU hd hne;go_enter Tryz.func132,Tryz.ntmps132;go_wp2_with fail;go_ret2
 exact⟨rfl,New.refl _⟩
theorem sC (w:World) (s:ByteArray) (dl:List UInt8) (hs:s.data.toList=45::dl) (hne:dl≠[]) (hd:dl.all aq=true) (hsz:s.size<=1048577) (hl:19<dl.length) (h0:dl.head? ≠some 48):
  Calls Tryz.prog 132 #[.string s] w fun e w'=>e= .returned (.tuple #[I 0,.bool false])∧New w w':=by
 have aU:=am s;have gd:0<s.size:=by rw[<-aU,hs];simp
 have hb0:s[0]=45:=by
  have:=bQ s 0 gd;rw[<-this];unfold af;rw[hs];rfl
 have hsI:(0:Int)<(s.size:Int):=by omega
 have vU:(1:Int)<=(s.size:Int):=by omega
 have hdE:decide (s=ByteArray.empty)=false:=decide_eq_false (by rintro rfl;simp at gd);have e45:((s[0].toNat:Int)==45)=true:=by rw[hb0];rfl
 obtain⟨d,hdd⟩:∃d,s.extract 1 s.size=d:=⟨_,rfl⟩
 have hdl:d.data.toList=dl:=by
  rw[<-hdd,dq,hs];show dl.take _=dl
  exact List.take_of_length_le (by rw[<-aU,hs];simp)
 have HDD:=Lib.hid hdd;have hds:d.size=dl.length:=by rw[<-am,hdl]
 have hdp:0<d.size:=by rw[hds];exact List.length_pos_iff.2 hne
 have hd0:d[0]=dl.head hne:=by
  have:=bQ d 0 hdp;rw[<-this];unfold af;rw[hdl];cases dl with
  |nil=>exact absurd rfl hne
  |cons c r=>rfl
 have vR:decide (d=ByteArray.empty)=false:=decide_eq_false (by rintro rfl;simp at hdp);have hdI:(0:Int)<(d.size:Int):=by omega
 have c1:(1:Int)<(d.size:Int):=by omega
 have c4:(19:Int)<(d.size:Int):=by omega
 have c2:((d[0].toNat:Int)==48)=false:=by
  rw[hd0];cases dl with
  |nil=>exact absurd rfl hne
  |cons c r=>
   simp only[List.head?_cons,ne_eq,Option.some.injEq] at h0;simp only[List.head_cons];simpa using fun h:(c.toNat:Int)=48=>h0 (UInt8.toNat_inj.1 (by show c.toNat=48;omega))
 have c3:(d.toList==[48])=false:=by
  rw[beq_eq_false_iff_ne,ByteArray.toList_eq,hdl];intro h;rw[h] at hl;simp at hl
 clear hdl hds hd0 hb0 hs aU hd hne;go_enter Tryz.func132,Tryz.ntmps132;go_wp2_with fail;go_ret2
 exact⟨rfl,New.refl _⟩
theorem sD (w:World) (s:ByteArray) (dl:List UInt8) (hs:s.data.toList=dl) (hne:dl≠[]) (hd:dl.all aq=true) (hsz:s.size<=1048577) (hl:19<dl.length) (h0:dl.head? ≠some 48):
  Calls Tryz.prog 132 #[.string s] w fun e w'=>e= .returned (.tuple #[I 0,.bool false])∧New w w':=by
 have aU:=am s;have gd:0<s.size:=by rw[<-aU,hs];exact List.length_pos_iff.2 hne
 have hb0:s[0]=dl.head hne:=by
  have:=bQ s 0 gd;rw[<-this];unfold af;rw[hs];cases dl with|nil=>exact absurd rfl hne|cons c r=>rfl
 have hsI:(0:Int)<(s.size:Int):=by omega
 have vU:(1:Int)<=(s.size:Int):=by omega
 have hdE:decide (s=ByteArray.empty)=false:=decide_eq_false (by rintro rfl;simp at gd);have hdg:aq (dl.head hne)=true:=(List.all_eq_true.1 hd) _ (List.head_mem hne);have hdr:=(bq _).1 hdg;have e45:((s[0].toNat:Int)==45)=false:=by
  rw[hb0];simpa using fun h:((dl.head hne).toNat:Int)=45=>by omega
 obtain⟨d,hdd⟩:∃d,s=d:=⟨_,rfl⟩
 have hdl:d.data.toList=dl:=by rw[<-hdd];exact hs
 have hds:d.size=dl.length:=by rw[<-am,hdl]
 have hdp:0<d.size:=by rw[hds];exact List.length_pos_iff.2 hne
 have hd0:d[0]=dl.head hne:=by
  have:=bQ d 0 hdp;rw[<-this];unfold af;rw[hdl];cases dl with
  |nil=>exact absurd rfl hne
  |cons c r=>rfl
 have vR:decide (d=ByteArray.empty)=false:=decide_eq_false (by rintro rfl;simp at hdp);have hdI:(0:Int)<(d.size:Int):=by omega
 have c1:(1:Int)<(d.size:Int):=by omega
 have c4:(19:Int)<(d.size:Int):=by omega
 have c2:((d[0].toNat:Int)==48)=false:=by
  rw[hd0];cases dl with
  |nil=>exact absurd rfl hne
  |cons c r=>
   simp only[List.head?_cons,ne_eq,Option.some.injEq] at h0;simp only[List.head_cons];simpa using fun h:(c.toNat:Int)=48=>h0 (UInt8.toNat_inj.1 (by show c.toNat=48;omega))
 have c3:(d.toList==[48])=false:=by
  rw[beq_eq_false_iff_ne,ByteArray.toList_eq,hdl];intro h;rw[h] at hl;simp at hl
 clear hdl hds hd0 hb0 hs aU hd hne hdr hdg;subst hdd;go_enter Tryz.func132,Tryz.ntmps132;go_wp2_with fail;go_ret2
 exact⟨rfl,New.refl _⟩
theorem sw (w:World) (s:ByteArray) (dl:List UInt8) (hs:s.data.toList=45::dl) (hne:dl≠[]) (hd:dl.all aq=true) (ym:dl.length<=19) (kV:dl.length=1∨dl.head? ≠some 48) (hz:dl≠[48]):
    Calls Tryz.prog 132 #[.string s] w fun e w'=>(match jx true (bY 0 dl) with
      |some n=>e= .returned (.tuple #[I n,.bool true])
      |none=>e= .returned (.tuple #[I 0,.bool false]))∧New w w':=by
  have aU:=am s;have gd:0<s.size:=by rw[<-aU,hs];simp
  have hss:s.size<=20:=by rw[<-aU,hs];simp;omega
  have hb0:s[0]=45:=by
    have:=bQ s 0 gd;rw[<-this];unfold af;rw[hs];rfl
  have hsI:(0:Int)<(s.size:Int):=by omega
  have vU:(1:Int)<=(s.size:Int):=by omega
  have hdE:decide (s=ByteArray.empty)=false:=decide_eq_false (by rintro rfl;simp at gd);have hvb:=jJ dl hd ym;have e45:((s[0].toNat:Int)==45)=true:=by rw[hb0];rfl
  obtain⟨d,hdd⟩:∃d,s.extract 1 s.size=d:=⟨_,rfl⟩
  have hdl:d.data.toList=dl:=by
    rw[<-hdd,dq,hs];show dl.take _=dl
    exact List.take_of_length_le (by rw[<-aU,hs];simp)
  have hv1:0<nd (bY 0 dl):=by
    have h0:bY 0 dl≠0:=by
      cases dl with
      |nil=>exact absurd rfl hne
      |cons c r=>
        simp only[List.all_cons,Bool.and_eq_true] at hd;have hc:=(bq c).1 hd.1;have h48:c.toNat≠48:=by
          intro h;rcases kV with h1|h1
          · cases r with
            |nil=>exact hz (by rw[UInt8.toNat_inj.1 (show c.toNat=(48:UInt8).toNat from h)])
            |cons=>simp at h1
          · exact h1 (by simp only[List.head?_cons,Option.some.injEq];exact UInt8.toNat_inj.1 h)
        have:=vd r (0*10+(c.toNat-48));rw[gt];omega
    unfold nd;rw[if_neg h0];split
    · omega
    · split<;>omega
  have hds:d.size=dl.length:=by rw[<-am,hdl]
  have hdp:0<d.size:=by rw[hds];exact List.length_pos_iff.2 hne
  have hd0:d[0]=dl.head hne:=by
    have:=bQ d 0 hdp;rw[<-this];unfold af;rw[hdl];cases dl with
    |nil=>exact absurd rfl hne
    |cons c r=>rfl
  have vR:decide (d=ByteArray.empty)=false:=decide_eq_false (by rintro rfl;simp at hdp);have hdI:(0:Int)<(d.size:Int):=by omega
  have CH:¬(19:Int)<(d.size:Int):=by omega
  have Dw:d.size<=19:=by omega
  have HDG:Hid (∀(i:Nat) (h:i<d.size),48<=d[i].toNat∧d[i].toNat<=57∧bY 0 (dl.take (i+1))=bY 0 (dl.take i)*10+(d[i].toNat-48)∧bY 0 (dl.take i)*10+9<bP):=Lib.hid (fun i h=>by
    have hi:i<dl.length:=by omega
    have e:d[i]=dl[i]:=by
      have h1:d.data.toList[i]? =some d[i]:=by rw[Array.getElem?_toList];exact Array.getElem?_eq_getElem h
      rw[hdl,List.getElem?_eq_getElem hi] at h1;simpa using h1.symm
    have hdi:=(bq dl[i]).1 ((List.all_eq_true.1 hd) _ (List.getElem_mem hi));rw[e];refine⟨hdi.1,hdi.2,qm dl i hi,?_⟩;have:=jJ (dl.take i) (pq hd i) (by rw[List.length_take];omega);unfold bP;omega)
  have HDN:Hid (dl.take d.size=dl):=Lib.hid (List.take_of_length_le (by omega));have c1:decide ((1:Int)<(d.size:Int))=false∨((decide ((1:Int)<(d.size:Int))=true)∧((d[0].toNat:Int)==48)=false):=by
    by_cases h1:dl.length=1
    · exact Or.inl (decide_eq_false (by omega))
    · refine Or.inr ⟨decide_eq_true (by have:=List.length_pos_iff.2 hne;omega),?_⟩
      have h2:=kV.resolve_left h1;rw[hd0];cases dl with
      |nil=>exact absurd rfl hne
      |cons c r=>
        simp only[List.head?_cons,ne_eq,Option.some.injEq] at h2;simp only[List.head_cons];simpa using fun h:(c.toNat:Int)=48=>h2 (UInt8.toNat_inj.1 (by show c.toNat=48;omega))
  have c3:(d.toList==[48])=false:=by rw[beq_eq_false_iff_ne,ByteArray.toList_eq,hdl];exact hz
  have hvt:bY 0 dl<bP:=by unfold bP;omega
  have HVT:=Lib.hid hvt;have HV1:=Lib.hid hv1;obtain⟨PO,hPO⟩:∃PO,PO=(fun(e:Ending) (w':World)=>(match jx true (bY 0 dl) with
        |some n=>e= .returned (.tuple #[I n,.bool true])
        |none=>e= .returned (.tuple #[I 0,.bool false]))∧New w w'):=⟨_,rfl⟩
  rw[<-hPO];have HPO:=Lib.hid hPO;have yx:∀W,Calls Tryz.prog 149 #[I 10] W (fm W false 10):=fun W=>iT W 10 (by omega) (by omega)
  have yp:nd 10=1:=by decide
  clear hdl hds hd0 hb0 hs aU hd hne kV ym hvb hvt hPO hz hv1;rcases c1 with c1|⟨c1,c2⟩
  all_goals
    (go_enter Tryz.func132,Tryz.ntmps132
     go_wp2_with fail;go_loopw [7] (fun x wr=>∃(i:Nat) (a:Option Addr) (c n:Nat),i<=d.size∧x= .int .i64 i∧Hid (nd (bY 0 (dl.take i))=n)∧Hid (ar wr a (Is (dgs (bY 0 (dl.take i))))∧Rm n c)∧New w wr∧Hid (wr.heap[w.heap.size]? =some (.cells #[.bool false,.slice a n c] 221 (0,0)))) (fun x _=>d.size-(intOf x).toNat)
     case atStart=>exact⟨0,none,0,0,by omega,rfl,Lib.hid rfl,Lib.hid ⟨ar.nil _ _,by show 0<=0;omega,by show(0:Int)<=_;omega⟩,(New.refl w).alloc _,Lib.hid (AZ w)⟩
     case round=>
       obtain⟨i,a,c,n,hi,rfl,HND,HSL,hN,HB⟩:=hrel;obtain⟨p0,p1,z0,z1,pB⟩:=bM HB.out;by_cases hi1:i<d.size
       · obtain⟨g1,g2,g3,g4⟩:=HDG.out i hi1
         have hiI:(i:Int)<(d.size:Int):=by omega
         obtain⟨v,hv⟩:∃v,bY 0 (dl.take i)=v:=⟨_,rfl⟩
         rw[hv] at g3 g4 HND HSL;obtain⟨b,hb⟩:∃b:Nat,d[i].toNat-48=b:=⟨_,rfl⟩
         have hb9:b<=9:=by omega
         have q1:IntKind.u8.wrap ((d[i].toNat:Int)-48)=(b:Int):=by rw[IntWalk.u8_in _ (by omega)];omega
         have q2:IntKind.i64.wrap (b:Int)=(b:Int):=IntWalk.i64_in _ (by omega);have Bx:∀W,Calls Tryz.prog 149 #[I (b:Int)] W (fm W false b):=fun W=>by
           have:=iT W (b:Int) (by omega) (by omega)
           rwa [decide_eq_false (by omega:¬(b:Int)<0),Int.natAbs_natCast] at this
         rw[hb] at g3;have HG3:=Lib.hid g3;clear g1 g2 g3 hv hb;go_wp2_with fail;have hS0:(fun w':World=>w'.cell? ⟨w.heap.size,0,none⟩=some (.bool false)∧w'.cell? ⟨w.heap.size,1,none⟩=some (.slice a n c)) wr.drew:=⟨New.cell ((New.refl wr).drew) p0,New.cell ((New.refl wr).drew) p1⟩
         refine aj (fun w':World=>w'.cell? ⟨w.heap.size,0,none⟩=some (.bool false)∧w'.cell? ⟨w.heap.size,1,none⟩=some (.slice a n c)) [10] (by kernel_rfl) hS0 ?_;refine ae 0 hS0 ?_;refine ae 3 hS0 ?_;refine ae 4 hS0 ?_;refine ae 5 hS0 ?_;refine ae 6 hS0 ?_;refine ae 7 hS0 ?_;refine ag 1 ?_;intro K hK;(try simp only[Act.put,sLs])
         go_simp;refine(yx _).mono ?_;rintro e w2 ⟨a2,c2,rfl,n2,s2,-⟩;rw[yp];have m2:New wr w2:=((New.refl wr).drew).trans n2;have hS2:(fun w':World=>w'.cell? ⟨w.heap.size,0,none⟩=some (.bool false)∧w'.cell? ⟨w.heap.size,1,none⟩=some (.slice a n c)) w2:=⟨New.cell m2 p0,New.cell m2 p1⟩
         refine hK _ _ (fun _=>hS2) ?_;clear hK K hS0 n2;refine ag 2 ?_;intro K hK;(try simp only[Act.put,sLs])
         go_simp;have tC:=vb w2 a a2 c c2 v (HSL.out.1.new m2) s2 (by unfold bP at g4 ⊢;omega);rw[HND.out] at tC;refine tC.mono ?_;rintro e w3 ⟨a3,c3,rfl,n3,s3,-⟩;have m3:=m2.trans n3;have hS3:(fun w':World=>w'.cell? ⟨w.heap.size,0,none⟩=some (.bool false)∧w'.cell? ⟨w.heap.size,1,none⟩=some (.slice a n c)) w3:=⟨New.cell m3 p0,New.cell m3 p1⟩
         refine hK _ _ (fun _=>hS3) ?_;clear hK K hS2 n3 s2 m2 tC;refine ag 8 ?_;intro K hK;(try simp only[Act.put,sLs])
         go_simp;refine(Bx _).mono ?_;rintro e w4 ⟨a4,c4,rfl,n4,s4,-⟩;have m4:=m3.trans n4;have hS4:(fun w':World=>w'.cell? ⟨w.heap.size,0,none⟩=some (.bool false)∧w'.cell? ⟨w.heap.size,1,none⟩=some (.slice a n c)) w4:=⟨New.cell m4 p0,New.cell m4 p1⟩
         refine hK _ _ (fun _=>hS4) ?_;replace s3:=s3.new n4;clear hK K hS3 n4 m3;refine ag 9 ?_;intro K hK;(try simp only[Act.put,sLs])
         go_simp;have rP:=sq w4 a3 a4 c3 c4 (v*10) b s3 s4 (by unfold bP at g4 ⊢;omega);refine rP.mono ?_;rintro e w5 ⟨a5,c5,rfl,n5,s5,r5⟩;have m5:=m4.trans n5;have hS5:(fun w':World=>w'.cell? ⟨w.heap.size,0,none⟩=some (.bool false)∧w'.cell? ⟨w.heap.size,1,none⟩=some (.slice a n c)) w5:=⟨New.cell m5 p0,New.cell m5 p1⟩
         refine hK _ _ (fun _=>hS5) ?_;clear hK K hS4 n5 s3 s4 m4 rP;have hB5:=Keeps.heap m5 HB.out (fun h=>h);obtain⟨r0,r1,f0,f1,hBB⟩:=bM hB5;obtain⟨n6,hn6⟩:∃n6,nd (v*10+b)=n6:=⟨_,rfl⟩
         obtain⟨hst,kst⟩:=gX hB5 (.bool false) (.slice a5 n6 c5);have HN6:=Lib.hid hn6;rw[hn6];have A4:Hid (ar ((w5.setCell ⟨w.heap.size,0,none⟩ (.bool false)).setCell ⟨w.heap.size,1,none⟩ (.slice a5 n6 c5)) a5 (Is (dgs (bY 0 (dl.take (i+1)))))∧Rm n6 c5):=Lib.hid ⟨by rw[HG3.out];exact zz s5 hB5 kst,by rw[<-hn6];exact r5⟩;have A3:Hid (nd (bY 0 (dl.take (i+1)))=n6):=Lib.hid (by rw[HG3.out];exact hn6);have HB2:=Lib.hid hst;have HNN:=Lib.hid (New.keeps (hN.trans m5) kst (fun i hi hx=>by omega));clear hst kst s5 r5 hn6 m5 hB5;refine ag 10 ?_;intro K hK;(try simp only[Act.put,sLs])
         go_simp;refine hK _ _ (fun h=>by cases h) ?_;clear hK K hS5 p0 p1 z0 z1 pB;refine av (by kernel_rfl) ?_;(try simp only[Act.put,sLs])
         (try simp only[Exit.then])
         go_wp2_with fail;go_roundw
         case rel=>exact⟨i+1,a5,c5,n6,by omega,by go_num,A3,A4,HNN.out,HB2⟩
         case measure=>simp[intOf];omega
       · have hie:i=d.size:=by omega
         have hdi:¬(i:Int)<(d.size:Int):=by omega
         have rd:Hid (nd (bY 0 dl)=n):=Lib.hid (by rw[<-HDN.out,<-hie];exact HND.out);have vi:Hid (ar wr a (Is (dgs (bY 0 dl)))∧Rm n c):=Lib.hid (by rw[<-HDN.out,<-hie];exact HSL.out);obtain⟨v,hv⟩:∃v,bY 0 dl=v:=⟨_,rfl⟩
         rw[hv] at rd vi HPO HVT HV1;clear hv hie HND HSL HDG HDN;have vT:=yY wr v a c vi.out.1 (by rw[rd.out];exact vi.out.2) HV1.out;rw[rd.out] at vT;go_wp2_with fail;refine vT.mono ?_;rintro e w2 ⟨a2,c2,rfl,n2,s2,-⟩;rw[rd.out];have hB2:=Keeps.heap n2 HB.out (fun h=>h);obtain⟨r0,r1,f0,f1,hBB⟩:=bM hB2;obtain⟨hst,kst⟩:=gX hB2 (.bool true) (.slice a2 n c2);have C1:=zz s2 hB2 kst;have hN2:=New.keeps (hN.trans n2) kst (fun i hi hx=>by omega);obtain⟨q0,q1,_,_,hq⟩:=bM hst;have hin:=uL _ true a2 c2 v C1 HVT.out;rw[rd.out] at hin;have HN2:=Lib.hid hN2;clear hst kst C1 hN2 s2 hB2 n2 hN vT p0 p1 z0 z1 pB;go_wp2_with fail;refine hin.mono ?_;rintro e w3 ⟨he,n3⟩;obtain⟨o,ho⟩:∃o,jx true v=o:=⟨_,rfl⟩
         rw[ho] at he HPO;cases o with
         |some r=>
           simp only at he;subst he;have HF:Hid (PO (.returned (.tuple #[I r,.bool true])) w3):=Lib.hid (by rw[HPO.out];exact⟨rfl,HN2.out.trans n3⟩);clear n3 ho;go_wp2_with fail;first|exact HF.out|(refine bodyPost_ret (results_tmp2 (by kernel_rfl) _ _ _) rfl ?_;exact HF.out)
         |none=>
           simp only at he;subst he;have HF:Hid (PO (.returned (.tuple #[I 0,.bool false])) w3):=Lib.hid (by rw[HPO.out];exact⟨rfl,HN2.out.trans n3⟩);clear n3 ho;go_wp2_with fail;first|exact HF.out|(refine bodyPost_ret (results_tmp2 (by kernel_rfl) _ _ _) rfl ?_;exact HF.out))
theorem sy (w:World) (s:ByteArray) (dl:List UInt8) (hs:s.data.toList=dl) (hne:dl≠[]) (hd:dl.all aq=true) (ym:dl.length<=19) (kV:dl.length=1∨dl.head? ≠some 48):
    Calls Tryz.prog 132 #[.string s] w fun e w'=>(match jx false (bY 0 dl) with
      |some n=>e= .returned (.tuple #[I n,.bool true])
      |none=>e= .returned (.tuple #[I 0,.bool false]))∧New w w':=by
  have aU:=am s;have gd:0<s.size:=by rw[<-aU,hs];exact List.length_pos_iff.2 hne
  have hss:s.size<=20:=by rw[<-aU,hs];omega
  have hb0:s[0]=dl.head hne:=by
    have:=bQ s 0 gd;rw[<-this];unfold af;rw[hs];cases dl with|nil=>exact absurd rfl hne|cons c r=>rfl
  have hsI:(0:Int)<(s.size:Int):=by omega
  have vU:(1:Int)<=(s.size:Int):=by omega
  have hdE:decide (s=ByteArray.empty)=false:=decide_eq_false (by rintro rfl;simp at gd);have hvb:=jJ dl hd ym;have hdg:aq (dl.head hne)=true:=(List.all_eq_true.1 hd) _ (List.head_mem hne);have hdr:=(bq _).1 hdg;have e45:((s[0].toNat:Int)==45)=false:=by
    rw[hb0];simpa using fun h:((dl.head hne).toNat:Int)=45=>by omega
  obtain⟨d,hdd⟩:∃d,d=s:=⟨_,rfl⟩
  have hdl:d.data.toList=dl:=by rw[hdd];exact hs
  have hds:d.size=dl.length:=by rw[<-am,hdl]
  have hdp:0<d.size:=by rw[hds];exact List.length_pos_iff.2 hne
  have hd0:d[0]=dl.head hne:=by
    have:=bQ d 0 hdp;rw[<-this];unfold af;rw[hdl];cases dl with
    |nil=>exact absurd rfl hne
    |cons c r=>rfl
  have vR:decide (d=ByteArray.empty)=false:=decide_eq_false (by rintro rfl;simp at hdp);have hdI:(0:Int)<(d.size:Int):=by omega
  have CH:¬(19:Int)<(d.size:Int):=by omega
  have Dw:d.size<=19:=by omega
  have HDG:Hid (∀(i:Nat) (h:i<d.size),48<=d[i].toNat∧d[i].toNat<=57∧bY 0 (dl.take (i+1))=bY 0 (dl.take i)*10+(d[i].toNat-48)∧bY 0 (dl.take i)*10+9<bP):=Lib.hid (fun i h=>by
    have hi:i<dl.length:=by omega
    have e:d[i]=dl[i]:=by
      have h1:d.data.toList[i]? =some d[i]:=by rw[Array.getElem?_toList];exact Array.getElem?_eq_getElem h
      rw[hdl,List.getElem?_eq_getElem hi] at h1;simpa using h1.symm
    have hdi:=(bq dl[i]).1 ((List.all_eq_true.1 hd) _ (List.getElem_mem hi));rw[e];refine⟨hdi.1,hdi.2,qm dl i hi,?_⟩;have:=jJ (dl.take i) (pq hd i) (by rw[List.length_take];omega);unfold bP;omega)
  have HDN:Hid (dl.take d.size=dl):=Lib.hid (List.take_of_length_le (by omega));have c1:decide ((1:Int)<(d.size:Int))=false∨((decide ((1:Int)<(d.size:Int))=true)∧((d[0].toNat:Int)==48)=false):=by
    by_cases h1:dl.length=1
    · exact Or.inl (decide_eq_false (by omega))
    · refine Or.inr ⟨decide_eq_true (by have:=List.length_pos_iff.2 hne;omega),?_⟩
      have h2:=kV.resolve_left h1;rw[hd0];cases dl with
      |nil=>exact absurd rfl hne
      |cons c r=>
        simp only[List.head?_cons,ne_eq,Option.some.injEq] at h2;simp only[List.head_cons];simpa using fun h:(c.toNat:Int)=48=>h2 (UInt8.toNat_inj.1 (by show c.toNat=48;omega))
  have hvt:bY 0 dl<bP:=by unfold bP;omega
  have HVT:=Lib.hid hvt;obtain⟨PO,hPO⟩:∃PO,PO=(fun(e:Ending) (w':World)=>(match jx false (bY 0 dl) with
        |some n=>e= .returned (.tuple #[I n,.bool true])
        |none=>e= .returned (.tuple #[I 0,.bool false]))∧New w w'):=⟨_,rfl⟩
  rw[<-hPO];have HPO:=Lib.hid hPO;have yx:∀W,Calls Tryz.prog 149 #[I 10] W (fm W false 10):=fun W=>iT W 10 (by omega) (by omega)
  have yp:nd 10=1:=by decide
  clear hdl hds hd0 hb0 hs aU hd hne kV ym hvb hvt hPO hdr hdg;subst hdd;rcases c1 with c1|⟨c1,c2⟩
  all_goals
    (go_enter Tryz.func132,Tryz.ntmps132
     go_wp2_with fail;go_loopw [7] (fun x wr=>∃(i:Nat) (a:Option Addr) (c n:Nat),i<=d.size∧x= .int .i64 i∧Hid (nd (bY 0 (dl.take i))=n)∧Hid (ar wr a (Is (dgs (bY 0 (dl.take i))))∧Rm n c)∧New w wr∧Hid (wr.heap[w.heap.size]? =some (.cells #[.bool false,.slice a n c] 221 (0,0)))) (fun x _=>d.size-(intOf x).toNat)
     case atStart=>exact⟨0,none,0,0,by omega,rfl,Lib.hid rfl,Lib.hid ⟨ar.nil _ _,by show 0<=0;omega,by show(0:Int)<=_;omega⟩,(New.refl w).alloc _,Lib.hid (AZ w)⟩
     case round=>
       obtain⟨i,a,c,n,hi,rfl,HND,HSL,hN,HB⟩:=hrel;obtain⟨p0,p1,z0,z1,pB⟩:=bM HB.out;by_cases hi1:i<d.size
       · obtain⟨g1,g2,g3,g4⟩:=HDG.out i hi1
         have hiI:(i:Int)<(d.size:Int):=by omega
         obtain⟨v,hv⟩:∃v,bY 0 (dl.take i)=v:=⟨_,rfl⟩
         rw[hv] at g3 g4 HND HSL;obtain⟨b,hb⟩:∃b:Nat,d[i].toNat-48=b:=⟨_,rfl⟩
         have hb9:b<=9:=by omega
         have q1:IntKind.u8.wrap ((d[i].toNat:Int)-48)=(b:Int):=by rw[IntWalk.u8_in _ (by omega)];omega
         have q2:IntKind.i64.wrap (b:Int)=(b:Int):=IntWalk.i64_in _ (by omega);have Bx:∀W,Calls Tryz.prog 149 #[I (b:Int)] W (fm W false b):=fun W=>by
           have:=iT W (b:Int) (by omega) (by omega)
           rwa [decide_eq_false (by omega:¬(b:Int)<0),Int.natAbs_natCast] at this
         rw[hb] at g3;have HG3:=Lib.hid g3;clear g1 g2 g3 hv hb;go_wp2_with fail;have hS0:(fun w':World=>w'.cell? ⟨w.heap.size,0,none⟩=some (.bool false)∧w'.cell? ⟨w.heap.size,1,none⟩=some (.slice a n c)) wr.drew:=⟨New.cell ((New.refl wr).drew) p0,New.cell ((New.refl wr).drew) p1⟩
         refine aj (fun w':World=>w'.cell? ⟨w.heap.size,0,none⟩=some (.bool false)∧w'.cell? ⟨w.heap.size,1,none⟩=some (.slice a n c)) [10] (by kernel_rfl) hS0 ?_;refine ae 0 hS0 ?_;refine ae 3 hS0 ?_;refine ae 4 hS0 ?_;refine ae 5 hS0 ?_;refine ae 6 hS0 ?_;refine ae 7 hS0 ?_;refine ag 1 ?_;intro K hK;(try simp only[Act.put,sLs])
         go_simp;refine(yx _).mono ?_;rintro e w2 ⟨a2,c2,rfl,n2,s2,-⟩;rw[yp];have m2:New wr w2:=((New.refl wr).drew).trans n2;have hS2:(fun w':World=>w'.cell? ⟨w.heap.size,0,none⟩=some (.bool false)∧w'.cell? ⟨w.heap.size,1,none⟩=some (.slice a n c)) w2:=⟨New.cell m2 p0,New.cell m2 p1⟩
         refine hK _ _ (fun _=>hS2) ?_;clear hK K hS0 n2;refine ag 2 ?_;intro K hK;(try simp only[Act.put,sLs])
         go_simp;have tC:=vb w2 a a2 c c2 v (HSL.out.1.new m2) s2 (by unfold bP at g4 ⊢;omega);rw[HND.out] at tC;refine tC.mono ?_;rintro e w3 ⟨a3,c3,rfl,n3,s3,-⟩;have m3:=m2.trans n3;have hS3:(fun w':World=>w'.cell? ⟨w.heap.size,0,none⟩=some (.bool false)∧w'.cell? ⟨w.heap.size,1,none⟩=some (.slice a n c)) w3:=⟨New.cell m3 p0,New.cell m3 p1⟩
         refine hK _ _ (fun _=>hS3) ?_;clear hK K hS2 n3 s2 m2 tC;refine ag 8 ?_;intro K hK;(try simp only[Act.put,sLs])
         go_simp;refine(Bx _).mono ?_;rintro e w4 ⟨a4,c4,rfl,n4,s4,-⟩;have m4:=m3.trans n4;have hS4:(fun w':World=>w'.cell? ⟨w.heap.size,0,none⟩=some (.bool false)∧w'.cell? ⟨w.heap.size,1,none⟩=some (.slice a n c)) w4:=⟨New.cell m4 p0,New.cell m4 p1⟩
         refine hK _ _ (fun _=>hS4) ?_;replace s3:=s3.new n4;clear hK K hS3 n4 m3;refine ag 9 ?_;intro K hK;(try simp only[Act.put,sLs])
         go_simp;have rP:=sq w4 a3 a4 c3 c4 (v*10) b s3 s4 (by unfold bP at g4 ⊢;omega);refine rP.mono ?_;rintro e w5 ⟨a5,c5,rfl,n5,s5,r5⟩;have m5:=m4.trans n5;have hS5:(fun w':World=>w'.cell? ⟨w.heap.size,0,none⟩=some (.bool false)∧w'.cell? ⟨w.heap.size,1,none⟩=some (.slice a n c)) w5:=⟨New.cell m5 p0,New.cell m5 p1⟩
         refine hK _ _ (fun _=>hS5) ?_;clear hK K hS4 n5 s3 s4 m4 rP;have hB5:=Keeps.heap m5 HB.out (fun h=>h);obtain⟨r0,r1,f0,f1,hBB⟩:=bM hB5;obtain⟨n6,hn6⟩:∃n6,nd (v*10+b)=n6:=⟨_,rfl⟩
         obtain⟨hst,kst⟩:=gX hB5 (.bool false) (.slice a5 n6 c5);have HN6:=Lib.hid hn6;rw[hn6];have A4:Hid (ar ((w5.setCell ⟨w.heap.size,0,none⟩ (.bool false)).setCell ⟨w.heap.size,1,none⟩ (.slice a5 n6 c5)) a5 (Is (dgs (bY 0 (dl.take (i+1)))))∧Rm n6 c5):=Lib.hid ⟨by rw[HG3.out];exact zz s5 hB5 kst,by rw[<-hn6];exact r5⟩;have A3:Hid (nd (bY 0 (dl.take (i+1)))=n6):=Lib.hid (by rw[HG3.out];exact hn6);have HB2:=Lib.hid hst;have HNN:=Lib.hid (New.keeps (hN.trans m5) kst (fun i hi hx=>by omega));clear hst kst s5 r5 hn6 m5 hB5;refine ag 10 ?_;intro K hK;(try simp only[Act.put,sLs])
         go_simp;refine hK _ _ (fun h=>by cases h) ?_;clear hK K hS5 p0 p1 z0 z1 pB;refine av (by kernel_rfl) ?_;(try simp only[Act.put,sLs])
         (try simp only[Exit.then])
         go_wp2_with fail;go_roundw
         case rel=>exact⟨i+1,a5,c5,n6,by omega,by go_num,A3,A4,HNN.out,HB2⟩
         case measure=>simp[intOf];omega
       · have hie:i=d.size:=by omega
         have hdi:¬(i:Int)<(d.size:Int):=by omega
         have rd:Hid (nd (bY 0 dl)=n):=Lib.hid (by rw[<-HDN.out,<-hie];exact HND.out);have vi:Hid (ar wr a (Is (dgs (bY 0 dl)))∧Rm n c):=Lib.hid (by rw[<-HDN.out,<-hie];exact HSL.out);obtain⟨v,hv⟩:∃v,bY 0 dl=v:=⟨_,rfl⟩
         rw[hv] at rd vi HPO HVT;clear hv hie HND HSL HDG HDN;have hin:=uL wr false a c v vi.out.1 HVT.out;rw[rd.out] at hin;have HN2:=Lib.hid hN;clear hN;go_wp2_with fail;refine hin.mono ?_;rintro e w3 ⟨he,n3⟩;obtain⟨o,ho⟩:∃o,jx false v=o:=⟨_,rfl⟩
         rw[ho] at he HPO;cases o with
         |some r=>
           simp only at he;subst he;have HF:Hid (PO (.returned (.tuple #[I r,.bool true])) w3):=Lib.hid (by rw[HPO.out];exact⟨rfl,HN2.out.trans n3⟩);clear n3 ho;go_wp2_with fail;first|exact HF.out|(refine bodyPost_ret (results_tmp2 (by kernel_rfl) _ _ _) rfl ?_;exact HF.out)
         |none=>
           simp only at he;subst he;have HF:Hid (PO (.returned (.tuple #[I 0,.bool false])) w3):=Lib.hid (by rw[HPO.out];exact⟨rfl,HN2.out.trans n3⟩);clear n3 ho;go_wp2_with fail;first|exact HF.out|(refine bodyPost_ret (results_tmp2 (by kernel_rfl) _ _ _) rfl ?_;exact HF.out))
theorem zr (w:World) (s:ByteArray) (c:UInt8) (r:List UInt8) (hs:s.data.toList=c::r.takeWhile aq) (hc:aq c=true∨(c.toNat=45∧aq (r.headD 0)=true)) (hsz:s.size<=1048577):
  Calls Tryz.prog 132 #[.string s] w (mq w (c::r.takeWhile aq)):=by
 have ha:=gw aq r;have pC:∀ {e:Ending} {w':World},fU (c::r.takeWhile aq)=none->(e= .returned (.tuple #[I 0,.bool false])∧New w w')->mq w (c::r.takeWhile aq) e w':=fun h he=>by
  unfold mq;rw[h];exact he
 rcases hc with hc|⟨hc,hd⟩
 ·have di:(c::r.takeWhile aq).all aq=true:=by simp only[List.all_cons,hc,ha,Bool.and_self]
  have hcd:=(bq c).1 hc;have en:fU (c::r.takeWhile aq)=match i8 (c::r.takeWhile aq) with
    |some v=>if v<9223372036854775808 then some (v:Int) else none
    |none=>none:=by
   unfold fU;exact if_neg (by omega)
  by_cases hlead:2<=(c::r.takeWhile aq).length∧(c::r.takeWhile aq).head? =some 48
  ·refine(sB w s _ hs (by simp) di hsz hlead.1 hlead.2).mono fun e w' he=>pC ?_ he
   rw[en];unfold i8;rw[if_pos (Or.inl hlead)]
  ·by_cases hlong:19<(c::r.takeWhile aq).length
   ·refine(sD w s _ hs (by simp) di hsz hlong (fun h=>hlead ⟨by omega,h⟩)).mono fun e w' he=>pC ?_ he
    rw[en];unfold i8;rw[if_pos (Or.inr hlong)]
   ·have kV:(c::r.takeWhile aq).length=1∨(c::r.takeWhile aq).head? ≠some 48:=by
     by_cases h1:(c::r.takeWhile aq).length=1
     ·exact Or.inl h1
     ·exact Or.inr (fun h=>hlead ⟨by simp only[List.length_cons] at h1 ⊢;omega,h⟩)
    refine(sy w s _ hs (by simp) di (by omega) kV).mono fun e w' he=>?_
    have e2:fU (c::r.takeWhile aq)=jx false (bY 0 (c::r.takeWhile aq)):=by
     rw[en];unfold i8;rw[if_neg (fun h=>h.elim hlead hlong)];unfold jx;rw[if_neg (by simp)]
    unfold mq;rw[e2];exact he
 ·obtain rfl:c=45:=UInt8.toNat_inj.1 hc;have hne:r.takeWhile aq≠[]:=by
   obtain⟨r',e⟩:=ii r (fun e=>by rw[e] at hd;exact absurd hd (by decide));rw[e,List.takeWhile_cons,if_pos hd];simp
  generalize r.takeWhile aq=dl at hs ha pC hne ⊢;by_cases hlead:2<=dl.length∧dl.head? =some 48
  ·refine(sA w s _ hs hne ha hsz hlead.1 hlead.2).mono fun e w' he=>pC ?_ he
   rw[gl];unfold i8;rw[if_pos (Or.inl hlead)];simp
  ·by_cases hz:dl=[48]
   ·refine(sE w s _ hs hne ha hsz hz).mono fun e w' he=>pC ?_ he
    rw[gl,if_pos hz]
   ·by_cases hlong:19<dl.length
    ·refine(sC w s _ hs hne ha hsz hlong (fun h=>hlead ⟨by omega,h⟩)).mono fun e w' he=>pC ?_ he
     rw[gl];unfold i8;rw[if_pos (Or.inr hlong)];simp
    ·have kV:dl.length=1∨dl.head? ≠some 48:=by
      by_cases h1:dl.length=1
      ·exact Or.inl h1
      ·exact Or.inr (fun h=>hlead ⟨by have:=List.length_pos_iff.2 hne;omega,h⟩)
     refine(sw w s _ hs hne ha (by omega) kV hz).mono fun e w' he=>?_
     have e2:fU (45::dl)=jx true (bY 0 dl):=by
      rw[gl,if_neg hz];unfold i8;rw[if_neg (fun h=>h.elim hlead hlong)];unfold jx;rw[if_pos rfl]
     unfold mq;rw[e2];exact he
def jn (w:World) (s:ByteArray) (k:Nat) (e:Ending) (w':World):Prop:=
 (match cZ (s.data.toList.drop k) with
  | .good so tx nu len=>e= .returned (.tuple #[.agg #[.int .u8 so,.string ⟨tx.toArray⟩,I nu,I k],I ((k+len:Nat):Int),I 0])
  | .bad c=>e= .returned (.tuple #[.agg #[.int .u8 0,.string ⟨#[]⟩,I 0,I 0],I 0,I c]))∧New w w'
theorem zq {w w':World} {s:ByteArray} {k:Nat} {so nu:Int} {tx:List UInt8} {len:Nat} {T:ByteArray} {z:Nat} (ht:cZ (s.data.toList.drop k)= .good so tx nu len) (hT:(⟨tx.toArray⟩:ByteArray)=T) (hz:k+len=z) (h:New w w'):
  jn w s k (.returned (.tuple #[.agg #[.int .u8 so,.string T,I nu,I k],I (z:Int),I 0])) w':=by
 subst hT;subst hz;unfold jn;rw[ht];exact⟨rfl,h⟩
theorem BM {w w':World} {s:ByteArray} {k:Nat} {c:Int} (ht:cZ (s.data.toList.drop k)= .bad c) (h:New w w'):jn w s k (.returned (.tuple #[.agg #[.int .u8 0,.string ⟨#[]⟩,I 0,I 0],I 0,I c])) w':=by
 unfold jn;rw[ht];exact⟨rfl,h⟩
theorem pc {w:World} {R:Nat} {x0 x1 x2 x3:Value} (h:w.heap[R]? =some (.cells #[x0,x1,x2,x3] 98 (0,0))) (u0 u1 u2 u3:Value):
  ((((w.setCell ⟨R,0,none⟩ u0).setCell ⟨R,1,none⟩ u1).setCell ⟨R,2,none⟩ u2).setCell ⟨R,3,none⟩ u3).heap[R]? =some (.cells #[u0,u1,u2,u3] 98 (0,0))∧Keeps (fun k=>k=R) w ((((w.setCell ⟨R,0,none⟩ u0).setCell ⟨R,1,none⟩ u1).setCell ⟨R,2,none⟩ u2).setCell ⟨R,3,none⟩ u3):=by
 have h1:=block_setCell (i:=0) h u0;have h2:=block_setCell (i:=1) h1 u1;have h3:=block_setCell (i:=2) h2 u2;have h4:=block_setCell (i:=3) h3 u3;refine⟨by rw[h4];simp,?_⟩;have k1:Keeps (fun k=>k=R) w (w.setCell ⟨R,0,none⟩ u0):=Keeps.setCell w _ _ rfl;have k2:Keeps (fun k=>k=R) (w.setCell ⟨R,0,none⟩ u0) ((w.setCell ⟨R,0,none⟩ u0).setCell ⟨R,1,none⟩ u1):=Keeps.setCell _ _ _ rfl;have k3:Keeps (fun k=>k=R) ((w.setCell ⟨R,0,none⟩ u0).setCell ⟨R,1,none⟩ u1) (((w.setCell ⟨R,0,none⟩ u0).setCell ⟨R,1,none⟩ u1).setCell ⟨R,2,none⟩ u2):=Keeps.setCell _ _ _ rfl;have k4:Keeps (fun k=>k=R) (((w.setCell ⟨R,0,none⟩ u0).setCell ⟨R,1,none⟩ u1).setCell ⟨R,2,none⟩ u2) ((((w.setCell ⟨R,0,none⟩ u0).setCell ⟨R,1,none⟩ u1).setCell ⟨R,2,none⟩ u2).setCell ⟨R,3,none⟩ u3):=Keeps.setCell _ _ _ rfl;exact((k1.trans k2 (fun _ _ h=>h)).trans k3 (fun _ _ h=>h)).trans k4 (fun _ _ h=>h)
theorem jH {w:World} {R:Nat} {x0 x1 x2 x3:Value} (h:w.heap[R]? =some (.cells #[x0,x1,x2,x3] 98 (0,0))):
  w.cell? ⟨R,0,none⟩=some x0∧w.cell? ⟨R,1,none⟩=some x1∧w.cell? ⟨R,2,none⟩=some x2∧w.cell? ⟨R,3,none⟩=some x3∧w.frozen? ⟨R,0,none⟩=false∧w.frozen? ⟨R,1,none⟩=false∧w.frozen? ⟨R,2,none⟩=false∧w.frozen? ⟨R,3,none⟩=false∧R<w.heap.size:=by
 refine⟨?_,?_,?_,?_,unfrozen_of_block h 0,unfrozen_of_block h 1,unfrozen_of_block h 2,unfrozen_of_block h 3,(Array.getElem?_eq_some_iff.1 h).1⟩
 ·rw[cell_of_block h 0];simp
 ·rw[cell_of_block h 1];simp
 ·rw[cell_of_block h 2];simp
 ·rw[cell_of_block h 3];simp
theorem Dr (c:UInt8):∃b0 b1 b2 b3 b4 b5:Bool,((c.toNat:Int)==45)=b0∧((c.toNat:Int)==123)=b1∧((c.toNat:Int)==125)=b2∧((c.toNat:Int)==61)=b3∧((c.toNat:Int)==59)=b4∧((c.toNat:Int)==46)=b5∧(b0=true∨b0=false∧b1=true∧b2=false∧b3=false∧b4=false∧b5=false∨b0=false∧b1=false∧b2=true∧b3=false∧b4=false∧b5=false∨b0=false∧b1=false∧b2=false∧b3=true∧b4=false∧b5=false∨b0=false∧b1=false∧b2=false∧b3=false∧b4=true∧b5=false∨b0=false∧b1=false∧b2=false∧b3=false∧b4=false∧b5=true∨b0=false∧b1=false∧b2=false∧b3=false∧b4=false∧b5=false)∧(b0=true->c.toNat=45)∧(b0=false->c.toNat≠45)∧f5 c=(b1||b2||b3||b4||b5):=by
 refine⟨_,_,_,_,_,_,rfl,rfl,rfl,rfl,rfl,rfl,?_⟩;have h:=fun k:Nat=>zX c k
 have h0:=h 45;have h1:=h 123;have h2:=h 125;have h3:=h 61;have h4:=h 59;have h5:=h 46;simp only[Int.cast_ofNat_Int] at h0 h1 h2 h3 h4 h5;rw[h0,h1,h2,h3,h4,h5];unfold f5;simp only[decide_eq_true_iff,decide_eq_false_iff_not];refine⟨by omega,fun h=>h,fun h=>h,?_⟩;rw[Bool.eq_iff_iff];simp only[Bool.or_eq_true,decide_eq_true_iff];omega
theorem zv (w:World) (s:ByteArray) (k:Nat) (hk:k<s.size) (hs:s.size<=1048576):Calls Tryz.prog 96 #[.string s,I k] w (jn w s k):=by
 obtain⟨j,hj⟩:∃j,k+1=j:=⟨_,rfl⟩
 obtain⟨PO,hPO⟩:∃PO,PO=jn w s k:=⟨_,rfl⟩
 rw[<-hPO];have HPO:=Lib.hid hPO;have hdr:=cF s k hk;have aU:=am s;have fC:=s[k].toNat_lt;have hkI:(k:Int)<(s.size:Int):=by omega
 have hw1:IntKind.i64.wrap ((k:Int)+1)=(j:Int):=by rw[IntWalk.i64_in _ (by omega)];omega
 have hjs:j<=s.size:=by omega
 rw[hj,bQ s k hk] at hdr;obtain⟨L,hL⟩:∃L,s.data.toList.drop j=L:=⟨_,rfl⟩
 have rH:L.length=s.size-j:=by rw[<-hL,List.length_drop,aU]
 have xX:∀t (ht:t<s.size),j<=t->L[t-j]? =some s[t]:=fun t ht h0=>by
  rw[<-hL,List.getElem?_drop,show j+(t-j)=t by omega,Array.getElem?_toList];exact Array.getElem?_eq_getElem ht
 obtain⟨d,hd⟩:∃d,af s j=d:=⟨_,rfl⟩
 have hL0:L.headD 0=d:=by rw[<-hd,<-hL];rfl
 rw[hL] at hdr;have HL:=Lib.hid rH;have HAT:=Lib.hid xX;have HJ:=Lib.hid hj;have HDR:=Lib.hid hdr;have HL0:=Lib.hid hL0;have HD:=Lib.hid hd;clear hPO hL rH xX aU hdr hL0 hd hj;go_enter Tryz.func96,Tryz.ntmps96;go_upto_if 19 with(fail)
 go_cut [8] (fun v w'=>v= .int .u8 (d.toNat:Int)∧w'=w.alloc (.cells #[.int .u8 0,.string ⟨#[]⟩,I 0,I 0] 98))
 case first=>
  by_cases hin:j<s.size
  ·have hb:s[j]=d:=by rw[<-HD.out,bQ s j hin]
   have hjI:(j:Int)<(s.size:Int):=by omega
   go_wp2_with fail;go_meet
   case rel=>exact⟨by first|rfl|rw[hb],rfl⟩
  ·have hb:0=d:=by rw[<-HD.out,jp s j hin]
   have hjI:¬(j:Int)<(s.size:Int):=by omega
   go_wp2_with fail;go_meet
   case rel=>exact⟨by first|rfl|(rw[<-hb];rfl),rfl⟩
 case rest=>
 obtain⟨rfl,rfl⟩:=hcut;cases hl:df s[k] with
 |true=>
  have CJ:cg s[k]=true:=(kx _).2 (Or.inl hl);have HTK:Hid (cZ (s.data.toList.drop k)=if 16<(L.takeWhile cg).length+1 then .bad 42 else .good 1 (s[k]::L.takeWhile cg) 0 ((L.takeWhile cg).length+1)):=Lib.hid (by
   rw[HDR.out,aY,if_pos hl,List.takeWhile_cons,if_pos CJ];rfl)
  have e1:bg (s[k].toNat:Int)=true:=hl;clear CJ hl;go_wp2_with (first|(go_at_call 119;refine(dw _ _).mono ?_;rintro e w2 ⟨rfl,rfl⟩)|(go_at_call 131;refine(dN _ _).mono ?_;rintro e w2 ⟨rfl,rfl⟩)|(go_at_call 120;refine(dO _ _).mono ?_;rintro e w2 ⟨rfl,rfl⟩));go_loopw [9] (fun x wr=>∃t:Nat,j<=t∧t<=s.size∧x= .int .i64 t∧Hid ((L.take (t-j)).all cg=true)∧wr=w.alloc (.cells #[.int .u8 0,.string ⟨#[]⟩,I 0,I 0] 98)) (fun x _=>s.size-(intOf x).toNat)
  case atStart=>exact⟨j,Nat.le_refl _,hjs,by rfl,Lib.hid (by rw[Nat.sub_self];rfl),rfl⟩
  case round=>
   obtain⟨t,ht1,ht2,rfl,HA,rfl⟩:=hrel;obtain⟨go,hgo⟩:∃g:Bool,(∀ht:t<s.size,cg s[t]=g)∧(s.size<=t->g=false):=by
    by_cases ht:t<s.size
    ·exact⟨cg s[t],fun _=>rfl,fun h=>absurd ht (by omega)⟩
    ·exact⟨false,fun h=>absurd h ht,fun _=>rfl⟩
   cases go with
   |true=>
    have ht3:t<s.size:=by
     by_cases h:t<s.size
     ·exact h
     ·exact absurd (hgo.2 (by omega)) (by decide)
    have htI:(t:Int)<(s.size:Int):=by omega
    have jv:s[t].toNat<256:=s[t].toNat_lt;have hwt:IntKind.i64.wrap ((t:Int)+1)=(t:Int)+1:=IntWalk.i64_in _ (by omega);have e4:be (s[t].toNat:Int)=true:=hgo.1 ht3;have HA2:Hid ((L.take (t+1-j)).all cg=true):=Lib.hid (by
     rw[show t+1-j=(t-j)+1 by omega,List.take_succ,HAT.out t ht3 ht1,List.all_append,HA.out];simp[hgo.1 ht3])
    clear hgo;go_wp2_with (first|(go_at_call 119;refine(dw _ _).mono ?_;rintro e w2 ⟨rfl,rfl⟩)|(go_at_call 131;refine(dN _ _).mono ?_;rintro e w2 ⟨rfl,rfl⟩)|(go_at_call 120;refine(dO _ _).mono ?_;rintro e w2 ⟨rfl,rfl⟩));go_roundw
    case rel=>exact⟨t+1,by omega,by omega,by go_num,HA2,by first|rfl|trivial⟩
    case measure=>simp[intOf];omega
   |false=>
    have HSP:Hid ((L.takeWhile cg).length=t-j):=Lib.hid (eB _ _ _ HA.out (fun b hb=>by
     by_cases ht:t<s.size
     ·rw[HAT.out t ht ht1] at hb;cases hb;exact hgo.1 ht
     ·rw[List.getElem?_eq_none (by rw[HL.out];omega)] at hb;cases hb) (by rw[HL.out];omega))
    have hkt:(k:Int)<=(t:Int):=by have:=HJ.out;omega
    have hts:(t:Int)<=(s.size:Int):=by omega
    have HC9:Hid (t<s.size∨¬t<s.size):=Lib.hid (Nat.lt_or_ge t s.size|>.imp id (by omega));have HGO:=Lib.hid hgo;clear hgo;have Ew:IntKind.i64.wrap ((t:Int)-(k:Int))=(t:Int)-(k:Int):=IntWalk.i64_in _ (by omega);by_cases h16:16<t-k
    ·have HB:Hid (cZ (s.data.toList.drop k)= .bad 42):=Lib.hid (by rw[HTK.out,HSP.out,if_pos (by have:=HJ.out;omega)]);have Dv:decide (16<(t:Int)-(k:Int))=true:=decide_eq_true (by omega);rcases HC9.out with ht|ht
     rotate_left 1
     have htI:¬(t:Int)<(s.size:Int):=by omega
     rotate_left 1
     have htI:(t:Int)<(s.size:Int):=by omega
     have jv:s[t].toNat<256:=s[t].toNat_lt;have e4:be (s[t].toNat:Int)=false:=HGO.out.1 ht;all_goals
      go_wp2_with (first|(go_at_call 119;refine(dw _ _).mono ?_;rintro e w2 ⟨rfl,rfl⟩)|(go_at_call 131;refine(dN _ _).mono ?_;rintro e w2 ⟨rfl,rfl⟩)|(go_at_call 120;refine(dO _ _).mono ?_;rintro e w2 ⟨rfl,rfl⟩));refine bodyPost_ret (v:= .tuple #[.agg #[.int .u8 0,.string ⟨#[]⟩,I 0,I 0],I 0,I 42]) (by simp[results,Tryz.results96,go_sem]) rfl ?_;rw[HPO.out];exact BM HB.out ((New.refl w).alloc _)
    ·obtain⟨Wd,hWd⟩:∃Wd,s.extract k t=Wd:=⟨_,rfl⟩
     have HWL:Hid ((⟨(s[k]::L.takeWhile cg).toArray⟩:ByteArray)=Wd):=Lib.hid (by
      apply ByteArray.ext;apply Array.toList_inj.1;rw[<-hWd,dq,HDR.out,show t-k=(t-j)+1 by have:=HJ.out;omega,List.take_succ_cons,<-HSP.out,bH])
     have HG:Hid (cZ (s.data.toList.drop k)= .good 1 (s[k]::L.takeWhile cg) 0 ((L.takeWhile cg).length+1)):=Lib.hid (by rw[HTK.out,if_neg (by rw[HSP.out];have:=HJ.out;omega)]);have Dv:decide (16<(t:Int)-(k:Int))=false:=decide_eq_false (by omega);rcases HC9.out with ht|ht
     rotate_left 1
     have htI:¬(t:Int)<(s.size:Int):=by omega
     rotate_left 1
     have htI:(t:Int)<(s.size:Int):=by omega
     have jv:s[t].toNat<256:=s[t].toNat_lt;have e4:be (s[t].toNat:Int)=false:=HGO.out.1 ht;all_goals
      go_wp2_with (first|(go_at_call 119;refine(dw _ _).mono ?_;rintro e w2 ⟨rfl,rfl⟩)|(go_at_call 131;refine(dN _ _).mono ?_;rintro e w2 ⟨rfl,rfl⟩)|(go_at_call 120;refine(dO _ _).mono ?_;rintro e w2 ⟨rfl,rfl⟩));refine bodyPost_ret (v:= .tuple #[.agg #[.int .u8 1,.string Wd,I 0,I k],I t,I 0]) (by simp[results,Tryz.results96,go_sem,hWd]) rfl ?_;rw[HPO.out];exact zq HG.out HWL.out (by rw[HSP.out];have:=HJ.out;omega) ((New.refl w).alloc _)
 |false=>
  have e1:bg (s[k].toNat:Int)=false:=hl;by_cases hc:aq s[k]=true∨(s[k].toNat=45∧aq (L.headD 0)=true)
  ·have HC:=Lib.hid hc;have HT1:Hid (∀v,fU (s[k]::L.takeWhile aq)=some v->cZ (s.data.toList.drop k)= .good 2 [] v ((L.takeWhile aq).length+1)):=Lib.hid (by
    intro v hv;rw[HDR.out,aY,if_neg (by rw[hl];simp),if_pos hc,hv])
   have HT2:Hid (fU (s[k]::L.takeWhile aq)=none->cZ (s.data.toList.drop k)= .bad 41):=Lib.hid (by
    intro hv;rw[HDR.out,aY,if_neg (by rw[hl];simp),if_pos hc,hv])
   have hq:∃q,bw (s[k].toNat:Int)=q∧(q=true∨q=false∧((s[k].toNat:Int)==45)=true∧bw (d.toNat:Int)=true):=by
    refine⟨_,rfl,?_⟩;cases h:bw (s[k].toNat:Int) with
    |true=>exact .inl rfl
    |false=>
     rcases hc with h'|⟨h',h2⟩
     ·exact absurd (h.symm.trans h') (by decide)
     ·exact .inr ⟨rfl,gL (k:=45) h',by rw[HL0.out] at h2;exact h2⟩
   obtain⟨q,e2,hq⟩:=hq;clear hc hl;rcases hq with rfl|⟨rfl,e45,e3⟩
   all_goals
    go_wp2_with (first|(go_at_call 119;refine(dw _ _).mono ?_;rintro e w2 ⟨rfl,rfl⟩)|(go_at_call 131;refine(dN _ _).mono ?_;rintro e w2 ⟨rfl,rfl⟩)|(go_at_call 120;refine(dO _ _).mono ?_;rintro e w2 ⟨rfl,rfl⟩));go_loopw [9] (fun x wr=>∃t:Nat,j<=t∧t<=s.size∧x= .int .i64 t∧Hid ((L.take (t-j)).all aq=true)∧wr=w.alloc (.cells #[.int .u8 0,.string ⟨#[]⟩,I 0,I 0] 98)) (fun x _=>s.size-(intOf x).toNat)
    case atStart=>exact⟨j,Nat.le_refl _,hjs,by rfl,Lib.hid (by rw[Nat.sub_self];rfl),rfl⟩
    case round=>
     obtain⟨t,ht1,ht2,rfl,HA,rfl⟩:=hrel;obtain⟨go,hgo⟩:∃g:Bool,(∀ht:t<s.size,aq s[t]=g)∧(s.size<=t->g=false):=by
      by_cases ht:t<s.size
      ·exact⟨aq s[t],fun _=>rfl,fun h=>absurd ht (by omega)⟩
      ·exact⟨false,fun h=>absurd h ht,fun _=>rfl⟩
     cases go with
     |true=>
      have ht3:t<s.size:=by
       by_cases h:t<s.size
       ·exact h
       ·exact absurd (hgo.2 (by omega)) (by decide)
      have htI:(t:Int)<(s.size:Int):=by omega
      have jv:s[t].toNat<256:=s[t].toNat_lt;have hwt:IntKind.i64.wrap ((t:Int)+1)=(t:Int)+1:=IntWalk.i64_in _ (by omega);have e4:bw (s[t].toNat:Int)=true:=hgo.1 ht3;have HA2:Hid ((L.take (t+1-j)).all aq=true):=Lib.hid (by
       rw[show t+1-j=(t-j)+1 by omega,List.take_succ,HAT.out t ht3 ht1,List.all_append,HA.out];simp[hgo.1 ht3])
      clear hgo;go_wp2_with (first|(go_at_call 119;refine(dw _ _).mono ?_;rintro e w2 ⟨rfl,rfl⟩)|(go_at_call 131;refine(dN _ _).mono ?_;rintro e w2 ⟨rfl,rfl⟩)|(go_at_call 120;refine(dO _ _).mono ?_;rintro e w2 ⟨rfl,rfl⟩));go_roundw
      case rel=>exact⟨t+1,by omega,by omega,by go_num,HA2,by first|rfl|trivial⟩
      case measure=>simp[intOf];omega
     |false=>
      have HSP:Hid ((L.takeWhile aq).length=t-j):=Lib.hid (eB _ _ _ HA.out (fun b hb=>by
       by_cases ht:t<s.size
       ·rw[HAT.out t ht ht1] at hb;cases hb;exact hgo.1 ht
       ·rw[List.getElem?_eq_none (by rw[HL.out];omega)] at hb;cases hb) (by rw[HL.out];omega))
      have hkt:(k:Int)<=(t:Int):=by have:=HJ.out;omega
      have hts:(t:Int)<=(s.size:Int):=by omega
      have HC9:Hid (t<s.size∨¬t<s.size):=Lib.hid (Nat.lt_or_ge t s.size|>.imp id (by omega));have HGO:=Lib.hid hgo;clear hgo;obtain⟨Wd,hWd⟩:∃Wd,s.extract k t=Wd:=⟨_,rfl⟩
      have hWl:Wd.data.toList=s[k]::L.takeWhile aq:=by
       rw[<-hWd,dq,HDR.out,show t-k=(t-j)+1 by have:=HJ.out;omega,List.take_succ_cons,<-HSP.out,bH]
      have hWs:Wd.size<=1048577:=by rw[<-am,hWl,List.length_cons,HSP.out];omega
      have jN:=fun W=>zr W Wd s[k] L hWl HC.out hWs
      have HZ:Hid (k+((L.takeWhile aq).length+1)=t):=Lib.hid (by rw[HSP.out];have:=HJ.out;omega);obtain⟨nb,hnb⟩:∃nb,fU (s[k]::L.takeWhile aq)=nb:=⟨_,rfl⟩
      have HNB:=Lib.hid hnb;unfold mq at jN;rw[hnb] at jN;clear hWl hWs hnb;cases nb with
      |some v=>
       rcases HC9.out with ht|ht
       rotate_left 1
       have htI:¬(t:Int)<(s.size:Int):=by omega
       rotate_left 1
       have htI:(t:Int)<(s.size:Int):=by omega
       have jv:s[t].toNat<256:=s[t].toNat_lt;have e4:bw (s[t].toNat:Int)=false:=HGO.out.1 ht;all_goals
        go_wp2_with (first|(go_at_call 119;refine(dw _ _).mono ?_;rintro e w2 ⟨rfl,rfl⟩)|(go_at_call 131;refine(dN _ _).mono ?_;rintro e w2 ⟨rfl,rfl⟩)|(go_at_call 120;refine(dO _ _).mono ?_;rintro e w2 ⟨rfl,rfl⟩));refine(jN _).mono ?_;rintro e w3 ⟨rfl,n3⟩;have hb3:=Keeps.heap n3 (heap_alloc_new w (.cells #[.int .u8 0,.string ⟨#[]⟩,I 0,I 0] 98)) (fun h=>h);obtain⟨r0,r1,r2,r3,f0,f1,f2,f3,hBB⟩:=jH hb3;obtain⟨hst,kst⟩:=pc hb3 (.int .u8 2) (.string ⟨#[]⟩) (I v) (I k);obtain⟨x0,x1,x2,x3,y0,y1,y2,y3,hXX⟩:=jH hst;have HF:=Lib.hid (New.keeps (((New.refl w).alloc _).trans n3) kst (fun i hi hx=>by omega));clear hst kst hb3 n3;go_wp2_with fail;refine bodyPost_ret (v:= .tuple #[.agg #[.int .u8 2,.string ⟨#[]⟩,I v,I k],I t,I 0]) (by simp[results,Tryz.results96,go_sem,x0,x1,x2,x3,y0,y1,y2,y3,hXX]) rfl ?_;rw[HPO.out];exact zq (HT1.out v HNB.out) rfl HZ.out HF.out
      |none=>
       rcases HC9.out with ht|ht
       rotate_left 1
       have htI:¬(t:Int)<(s.size:Int):=by omega
       rotate_left 1
       have htI:(t:Int)<(s.size:Int):=by omega
       have jv:s[t].toNat<256:=s[t].toNat_lt;have e4:bw (s[t].toNat:Int)=false:=HGO.out.1 ht;all_goals
        go_wp2_with (first|(go_at_call 119;refine(dw _ _).mono ?_;rintro e w2 ⟨rfl,rfl⟩)|(go_at_call 131;refine(dN _ _).mono ?_;rintro e w2 ⟨rfl,rfl⟩)|(go_at_call 120;refine(dO _ _).mono ?_;rintro e w2 ⟨rfl,rfl⟩));refine(jN _).mono ?_;rintro e w3 ⟨rfl,n3⟩;have hb3:=Keeps.heap n3 (heap_alloc_new w (.cells #[.int .u8 0,.string ⟨#[]⟩,I 0,I 0] 98)) (fun h=>h);obtain⟨r0,r1,r2,r3,f0,f1,f2,f3,hBB⟩:=jH hb3;obtain⟨hst,kst⟩:=pc hb3 (.int .u8 0) (.string ⟨#[]⟩) (I 0) (I 0);obtain⟨x0,x1,x2,x3,y0,y1,y2,y3,hXX⟩:=jH hst;have HF:=Lib.hid (New.keeps (((New.refl w).alloc _).trans n3) kst (fun i hi hx=>by omega));clear hst kst hb3 n3;go_wp2_with fail;refine bodyPost_ret (v:= .tuple #[.agg #[.int .u8 0,.string ⟨#[]⟩,I 0,I 0],I 0,I 41]) (by simp[results,Tryz.results96,go_sem,x0,x1,x2,x3,y0,y1,y2,y3,hXX]) rfl ?_;rw[HPO.out];exact BM (HT2.out HNB.out) HF.out
  ·have hd:bw (s[k].toNat:Int)=false:=by
    cases h:bw (s[k].toNat:Int) with
    |false=>rfl
    |true=>exact absurd (.inl h) hc
   have HTK:Hid (cZ (s.data.toList.drop k)=if s[k].toNat=45∧d.toNat=62 then .good 3 [45,62] 0 2 else if f5 s[k] then .good 3 [s[k]] 0 1 else .bad 40):=Lib.hid (by
    rw[HDR.out,aY,if_neg (by rw[hl];simp),if_neg hc,HL0.out])
   have HSK:=Lib.hid (show s.data.toList.drop k=s[k]::L from HDR.out);obtain⟨b0,b1,b2,b3,b4,b5,m0,m1,m2,m3,m4,m5,hcs,h45,Bu,hmk⟩:=Dr s[k];have h62:((d.toNat:Int)==62)=decide (d.toNat=62):=zX d 62;have xo:Hid (∀(T:ByteArray) (z:Nat) (tx:List UInt8) (len:Nat) (w':World),cZ (s.data.toList.drop k)= .good 3 tx 0 len->(⟨tx.toArray⟩:ByteArray)=T->k+len=z->New w w'->PO (.returned (.tuple #[.agg #[.int .u8 3,.string T,I 0,I k],I (z:Int),I 0])) w'):=Lib.hid (fun T z tx len w' h1 h2 h3 h4=>by rw[HPO.out];exact zq h1 h2 h3 h4);have B4:Hid (∀w',cZ (s.data.toList.drop k)= .bad 40->New w w'->PO (.returned (.tuple #[.agg #[.int .u8 0,.string ⟨#[]⟩,I 0,I 0],I 0,I 40])) w'):=Lib.hid (fun w' h1 h2=>by rw[HPO.out];exact BM h1 h2);have hw2:IntKind.i64.wrap ((k:Int)+2)=((k+2:Nat):Int):=by rw[IntWalk.i64_in _ (by omega)];omega
   have hkj:(k:Int)<=(j:Int):=by have:=HJ.out;omega
   have hjS:(j:Int)<=(s.size:Int):=by omega
   obtain⟨Wd,hWd⟩:∃Wd,s.extract k j=Wd:=⟨_,rfl⟩
   have HWL:Hid ((⟨[s[k]].toArray⟩:ByteArray)=Wd):=Lib.hid (by
    apply ByteArray.ext;apply Array.toList_inj.1;rw[<-hWd,dq,HDR.out,show j-k=1 by have:=HJ.out;omega];rfl)
   cases b0 with
   |true=>
    have e3:bw (d.toNat:Int)=false:=by
     cases h2:bw (d.toNat:Int) with
     |false=>rfl
     |true=>exact absurd (.inr ⟨h45 rfl,by rw[HL0.out];exact h2⟩) hc
    clear hcs Bu hc;by_cases hx:d.toNat=62
    ·rw[decide_eq_true hx] at h62;have HT:=Lib.hid (HTK.out.trans (if_pos ⟨h45 rfl,hx⟩));clear hx h45 hmk HTK;go_wp2_with (first|(go_at_call 119;refine(dw _ _).mono ?_;rintro e w2 ⟨rfl,rfl⟩)|(go_at_call 131;refine(dN _ _).mono ?_;rintro e w2 ⟨rfl,rfl⟩)|(go_at_call 120;refine(dO _ _).mono ?_;rintro e w2 ⟨rfl,rfl⟩));refine bodyPost_ret (v:= .tuple #[.agg #[.int .u8 3,.string ⟨#[45,62]⟩,I 0,I k],I ((k+2:Nat):Int),I 0]) (by simp[results,Tryz.results96,go_sem]) rfl ?_;exact xo.out _ _ _ _ _ HT.out rfl rfl ((New.refl w).alloc _)
    ·rw[decide_eq_false hx] at h62;have hm:f5 s[k]=false:=by have:=h45 rfl;unfold f5;rw[decide_eq_false_iff_not];omega
     have HT:=Lib.hid ((HTK.out.trans (if_neg (fun h=>hx h.2))).trans (if_neg (by rw[hm];decide)));obtain rfl:b1=false:=m1.symm.trans (by rw[h45 rfl];rfl);obtain rfl:b2=false:=m2.symm.trans (by rw[h45 rfl];rfl);obtain rfl:b3=false:=m3.symm.trans (by rw[h45 rfl];rfl);obtain rfl:b4=false:=m4.symm.trans (by rw[h45 rfl];rfl);obtain rfl:b5=false:=m5.symm.trans (by rw[h45 rfl];rfl);clear hx h45 hmk HTK hm;go_wp2_with (first|(go_at_call 119;refine(dw _ _).mono ?_;rintro e w2 ⟨rfl,rfl⟩)|(go_at_call 131;refine(dN _ _).mono ?_;rintro e w2 ⟨rfl,rfl⟩)|(go_at_call 120;refine(dO _ _).mono ?_;rintro e w2 ⟨rfl,rfl⟩));refine bodyPost_ret (v:= .tuple #[.agg #[.int .u8 0,.string ⟨#[]⟩,I 0,I 0],I 0,I 40]) (by simp[results,Tryz.results96,go_sem]) rfl ?_;exact B4.out _ HT.out ((New.refl w).alloc _)
   |false=>
    have HT:=Lib.hid (HTK.out.trans (if_neg (fun h=>Bu rfl h.1)));rw[hmk] at HT;clear h45 Bu hc hmk HTK;rcases hcs with h|⟨-,rfl,rfl,rfl,rfl,rfl⟩|⟨-,rfl,rfl,rfl,rfl,rfl⟩|⟨-,rfl,rfl,rfl,rfl,rfl⟩|⟨-,rfl,rfl,rfl,rfl,rfl⟩|⟨-,rfl,rfl,rfl,rfl,rfl⟩|⟨-,rfl,rfl,rfl,rfl,rfl⟩
    ·cases h
    iterate 5
     rotate_left 1
    ·go_wp2_with (first|(go_at_call 119;refine(dw _ _).mono ?_;rintro e w2 ⟨rfl,rfl⟩)|(go_at_call 131;refine(dN _ _).mono ?_;rintro e w2 ⟨rfl,rfl⟩)|(go_at_call 120;refine(dO _ _).mono ?_;rintro e w2 ⟨rfl,rfl⟩));refine bodyPost_ret (v:= .tuple #[.agg #[.int .u8 0,.string ⟨#[]⟩,I 0,I 0],I 0,I 40]) (by simp[results,Tryz.results96,go_sem]) rfl ?_;exact B4.out _ HT.out ((New.refl w).alloc _)
    all_goals
     go_wp2_with (first|(go_at_call 119;refine(dw _ _).mono ?_;rintro e w2 ⟨rfl,rfl⟩)|(go_at_call 131;refine(dN _ _).mono ?_;rintro e w2 ⟨rfl,rfl⟩)|(go_at_call 120;refine(dO _ _).mono ?_;rintro e w2 ⟨rfl,rfl⟩));refine bodyPost_ret (v:= .tuple #[.agg #[.int .u8 3,.string Wd,I 0,I k],I j,I 0]) (by simp[results,Tryz.results96,go_sem,hWd]) rfl ?_;exact xo.out _ _ _ _ _ HT.out HWL.out HJ.out ((New.refl w).alloc _)
theorem zn (w:World) (s:ByteArray) (hs:s.size<=9223372036854775807):
  Calls Tryz.prog 58 #[.string s] w (iR w s):=by
 have hz:(w.alloc nP).heap[w.heap.size]? =some (.cells #[I 0,I 0] 33 (0,0)):=heap_alloc_new w _;by_cases gQ:1048576<s.size
 ·have HA:=Lib.hid (pJ gQ);have hbI:(1048576:Int)<(s.size:Int):=by omega
  clear hz;go_enter Tryz.func58,Tryz.ntmps58;go_wp2_with fail;refine bodyPost_ret (v:= .tuple #[.slice none 0 0,.agg #[I 2,I 1048576]]) (by simp[results,Tryz.results58,go_sem]) rfl ?_;exact lK _ _ _ _ _ HA.out ((New.refl w).alloc _)
 ·obtain⟨i0,hi0,hz0,hz1,hz2⟩:=info_parts uK;have HBG:=Lib.hid gQ;have hs2:s.size<=1048576:=by omega
  have hbI:¬(1048576:Int)<(s.size:Int):=by omega
  have HZ:=Lib.hid hz;have kO:(w.alloc nP).ownsRow w.heap.size 98 4 (.slice none 0 0) 0 []:=World.ownsRow_nil _ _ _ _;have aU:=am s;clear gQ hz;obtain⟨PO,hPO⟩:∃PO,PO=iR w s:=⟨_,rfl⟩
  rw[<-hPO];have HPO:=Lib.hid hPO;have zR:=Lib.hid aU;clear hPO aU;go_enter Tryz.func58,Tryz.ntmps58;go_wp2_with fail;go_loopw [4,5] (fun x y wr=>∃(k:Nat) (ts:List LTok) (a:Option Addr) (c nn:Nat),k<=s.size∧y= .int .i64 k∧x= .slice a nn c∧nn<=k∧Hid (ts.length=nn)∧Hid (bU 0 s.data.toList=(ts++(bU k (s.data.toList.drop k)).1,(bU k (s.data.toList.drop k)).2))∧New w wr∧
 Hid (wr.heap[w.heap.size]? =some (.cells #[I 0,I 0] 33 (0,0)))∧Hid (wr.ownsRow w.heap.size 98 4 (.slice a nn c) nn (ts.flatMap bm))) (fun _ y _=>s.size-(intOf y).toNat)
  case atStart=>
   refine⟨0,[],none,0,0,by omega,rfl,rfl,by omega,Lib.hid rfl,Lib.hid ?_,(New.refl w).alloc _,HZ,Lib.hid kO⟩;rw[List.drop_zero];rfl
  case round=>
   clear kO HZ;obtain⟨k,ts,a,c,nn,hk,rfl,rfl,hnn,HTS,HL,hN,HZ,HO⟩:=hrel;by_cases hk2:k<s.size
   ·have hkI:(k:Int)<(s.size:Int):=by omega
    have hdr:=xP s k hk2;obtain⟨b,hb⟩:∃b,s[k]=b:=⟨_,rfl⟩
    rw[hb] at hdr;have jv:b.toNat<256:=b.toNat_lt;have hw1:IntKind.i64.wrap ((k:Int)+1)=(k:Int)+1:=IntWalk.i64_in _ (by omega);cases hbl:de b with
    |true=>
     have HL2:Hid (bU 0 s.data.toList=(ts++(bU (k+1) (s.data.toList.drop (k+1))).1,(bU (k+1) (s.data.toList.drop (k+1))).2)):=Lib.hid (by rw[HL.out,hdr,cC _ _ _ hbl]);unfold de at hbl;rw[decide_eq_true_iff] at hbl;rcases hbl with h|h|h|h
     ·have e32:((b.toNat:Int)==32)=true:=gL (k:=32) (by omega);obtain⟨bI,kN⟩:∃x:Int,(b.toNat:Int)=x:=⟨_,rfl⟩
      rw[kN] at e32;clear h hdr jv;go_wp2_with fail;go_roundw
      case rel=>exact⟨k+1,ts,a,c,nn,by omega,by go_num,rfl,by omega,HTS,HL2,hN,HZ,HO⟩
      case measure=>simp[intOf];omega
     ·have e32:((b.toNat:Int)==32)=false:=dU (k:=32) (by omega);have e9:((b.toNat:Int)==9)=true:=gL (k:=9) (by omega);obtain⟨bI,kN⟩:∃x:Int,(b.toNat:Int)=x:=⟨_,rfl⟩
      rw[kN] at e32 e9;clear h hdr jv;go_wp2_with fail;go_roundw
      case rel=>exact⟨k+1,ts,a,c,nn,by omega,by go_num,rfl,by omega,HTS,HL2,hN,HZ,HO⟩
      case measure=>simp[intOf];omega
     ·have e32:((b.toNat:Int)==32)=false:=dU (k:=32) (by omega);have e9:((b.toNat:Int)==9)=false:=dU (k:=9) (by omega);have e13:((b.toNat:Int)==13)=true:=gL (k:=13) (by omega);obtain⟨bI,kN⟩:∃x:Int,(b.toNat:Int)=x:=⟨_,rfl⟩
      rw[kN] at e32 e9 e13;clear h hdr jv;go_wp2_with fail;go_roundw
      case rel=>exact⟨k+1,ts,a,c,nn,by omega,by go_num,rfl,by omega,HTS,HL2,hN,HZ,HO⟩
      case measure=>simp[intOf];omega
     ·have e32:((b.toNat:Int)==32)=false:=dU (k:=32) (by omega);have e9:((b.toNat:Int)==9)=false:=dU (k:=9) (by omega);have e13:((b.toNat:Int)==13)=false:=dU (k:=13) (by omega);have e10:((b.toNat:Int)==10)=true:=gL (k:=10) (by omega);obtain⟨bI,kN⟩:∃x:Int,(b.toNat:Int)=x:=⟨_,rfl⟩
      rw[kN] at e32 e9 e13 e10;clear h hdr jv;go_wp2_with fail;go_roundw
      case rel=>exact⟨k+1,ts,a,c,nn,by omega,by go_num,rfl,by omega,HTS,HL2,hN,HZ,HO⟩
      case measure=>simp[intOf];omega
    |false=>
     have hbn:¬(b.toNat=32∨b.toNat=9∨b.toNat=13∨b.toNat=10):=by
      have h:=hbl;unfold de at h
      rwa [decide_eq_false_iff_not] at h
     have e32:((b.toNat:Int)==32)=false:=dU (k:=32) (by omega);have e9:((b.toNat:Int)==9)=false:=dU (k:=9) (by omega);have e13:((b.toNat:Int)==13)=false:=dU (k:=13) (by omega);have e10:((b.toNat:Int)==10)=false:=dU (k:=10) (by omega);by_cases h35:b.toNat=35
     ·have e35:((b.toNat:Int)==35)=true:=gL (k:=35) h35;have hne:bV b=true:=by unfold bV;rw[decide_eq_true_iff];omega
      obtain⟨L,hL⟩:∃L,s.data.toList.drop k=L:=⟨_,rfl⟩
      have rH:L.length=s.size-k:=by rw[<-hL,List.length_drop,zR.out]
      have xX:∀t (ht:t<s.size),k<=t->L[t-k]? =some s[t]:=fun t ht h0=>by
       rw[<-hL,List.getElem?_drop,show k+(t-k)=t by omega,Array.getElem?_toList];exact Array.getElem?_eq_getElem ht
      have HLL:=Lib.hid rH;have HAT:=Lib.hid xX;have xo:Hid (∀t,(L.takeWhile bV).length=t-k->t<=s.size->k<t∧bU 0 s.data.toList=(ts++(bU t (s.data.toList.drop t)).1,(bU t (s.data.toList.drop t)).2)):=Lib.hid (by
       intro t ht hts;have hL2:L=b::s.data.toList.drop (k+1):=by rw[<-hL,hdr]
       rw[hL2,List.takeWhile_cons,if_pos hne,List.length_cons] at ht;refine⟨by omega,?_⟩;rw[HL.out,hdr,gj _ _ _ h35,List.drop_drop,show k+1+((s.data.toList.drop (k+1)).takeWhile bV).length=t by omega])
      have hbe:(s[k].toNat:Int)=(b.toNat:Int):=by rw[hb]
      clear hL rH xX hdr hne hbn hbl HL hb;obtain⟨bI,kN⟩:∃x:Int,(b.toNat:Int)=x:=⟨_,rfl⟩
      rw[kN] at e32 e9 e13 e10 e35 hbe;clear kN h35 jv;go_wp2_with fail;obtain⟨wo,rfl⟩:∃wo:World,wo=wr:=⟨_,rfl⟩
      go_loopw [5] (fun y wr=>∃t:Nat,k<=t∧t<=s.size∧y= .int .i64 t∧Hid ((L.take (t-k)).all bV=true)∧wr=wo) (fun y _=>s.size-(intOf y).toNat)
      case atStart=>exact⟨k,Nat.le_refl _,hk,rfl,Lib.hid (by rw[Nat.sub_self];rfl),rfl⟩
      case round=>
       obtain⟨t,ht1,ht2,rfl,HA,rfl⟩:=hrel;by_cases ht3:t<s.size
       ·have hat:=HAT.out t ht3 ht1;have htI:(t:Int)<(s.size:Int):=by omega
        have hwt:IntKind.i64.wrap ((t:Int)+1)=(t:Int)+1:=IntWalk.i64_in _ (by omega);have Ef:s[t].toNat<256:=s[t].toNat_lt;by_cases h10:s[t].toNat=10
        ·have e2:bV s[t]=false:=by unfold bV;rw[decide_eq_false_iff_not];omega
         have f10:((s[t].toNat:Int)==10)=true:=gL (k:=10) h10;obtain⟨hlt,hle⟩:=xo.out t (eB _ _ _ HA.out (fun b hb=>by rw[hat] at hb;cases hb;exact e2) (by rw[HLL.out];omega)) ht2;have HLE:=Lib.hid hle;clear e2 hat h10 hle;go_wp2_with fail;go_roundw
         case rel=>exact⟨t,ts,a,c,nn,by omega,by first|rfl|go_num,rfl,by omega,HTS,HLE,hN,HZ,HO⟩
         case measure=>simp[intOf];omega
        ·have e2:bV s[t]=true:=by unfold bV;rw[decide_eq_true_iff];omega
         have f10:((s[t].toNat:Int)==10)=false:=dU (k:=10) h10;have HA2:Hid ((L.take (t+1-k)).all bV=true):=Lib.hid (by
          rw[show t+1-k=(t-k)+1 by omega,List.take_succ,hat,List.all_append,HA.out];simp[e2])
         clear e2 hat h10;go_wp2_with fail;go_roundw
         case rel=>exact⟨t+1,by omega,by omega,by go_num,HA2,by first|rfl|trivial⟩
         case measure=>simp[intOf];omega
       ·obtain⟨hlt,hle⟩:=xo.out t (eB _ _ _ HA.out (fun b hb=>by rw[List.getElem?_eq_none (by rw[HLL.out];omega)] at hb;cases hb) (by rw[HLL.out];omega)) ht2;have HLE:=Lib.hid hle;have htI:¬(t:Int)<(s.size:Int):=by omega
        clear hle;go_wp2_with fail;go_roundw
        case rel=>exact⟨t,ts,a,c,nn,by omega,by first|rfl|go_num,rfl,by omega,HTS,HLE,hN,HZ,HO⟩
        case measure=>simp[intOf];omega
     ·have e35:((b.toNat:Int)==35)=false:=dU (k:=35) h35;have htk:=zv wr s k hk2 hs2;unfold jn at htk;have hbe:(s[k].toNat:Int)=(b.toNat:Int):=by rw[hb]
      have hsz:=hN.size;cases ht:cZ (s.data.toList.drop k) with
      |bad cc=>
       have HLB:Hid (eR s.data.toList=([],cc,k)):=Lib.hid (rW HBG.out (show bU 0 s.data.toList=(ts,some (cc,k)) by
        have ht2:=ht;rw[hdr] at ht2;rw[HL.out,hdr,i7 _ _ _ hbl h35 ht2,List.append_nil]))
       have hcd:(cc==0)=false:=by rcases pb ht with rfl|rfl|rfl<;>rfl
       rw[ht] at htk;clear ht hdr hbn hbl HL hb;obtain⟨bI,kN⟩:∃x:Int,(b.toNat:Int)=x:=⟨_,rfl⟩
       rw[kN] at e32 e9 e13 e10 e35 hbe;clear kN h35 jv;go_wp2_with fail;refine htk.mono ?_;rintro e w4 ⟨rfl,n4⟩;have hz4:=Keeps.heap n4 HZ.out (fun h=>h);obtain⟨u0,u1,v0,v1,Er⟩:=fG hz4;obtain⟨hst,kst⟩:=ju hz4 (I cc) (I k);obtain⟨W5,hW5⟩:∃W5,(w4.setCell ⟨w.heap.size,0,none⟩ (I cc)).setCell ⟨w.heap.size,1,none⟩ (I k)=W5:=⟨_,rfl⟩
       rw[hW5] at hst kst;have ka:New W5 (W5.alloc (.cells #[.int .u8 0,.string ⟨#[]⟩,I 0,I 0] 98)):=(New.refl _).alloc _;obtain⟨x0,x1,y0,y1,hBB⟩:=fG (Keeps.heap ka hst (fun h=>h));have HF:Hid (PO (.returned (.tuple #[.slice none 0 0,.agg #[I cc,I k]])) (W5.alloc (.cells #[.int .u8 0,.string ⟨#[]⟩,I 0,I 0] 98))):=Lib.hid (by
        rw[HPO.out];exact lK _ _ _ _ _ HLB.out ((New.keeps (hN.trans n4) kst (fun i hi hx=>by omega)).trans ka))
       have HW5:=Lib.hid hW5;clear hst kst hz4 n4 ka htk hN hW5;go_wp2_with fail;have hxx:(w4.setCell ⟨w.heap.size,0,none⟩ (.int .i64 cc)).setCell ⟨w.heap.size,1,none⟩ (.int .i64 (k:Int))=W5:=HW5.out;rw[hxx];refine bodyPost_ret (v:= .tuple #[.slice none 0 0,.agg #[I cc,I k]]) (by simp[results,Tryz.results58,go_sem,x0,x1,y0,y1,hBB]) rfl ?_;exact HF.out
      |good so tx nu len=>
       have hl2:=gD ht;rw[List.length_drop,zR.out] at hl2;obtain⟨Tx,hTx⟩:∃T:ByteArray,(⟨tx.toArray⟩:ByteArray)=T:=⟨_,rfl⟩
       obtain⟨z,hzz⟩:∃z,k+len=z:=⟨_,rfl⟩
       have HL2:Hid (bU 0 s.data.toList=((ts++[⟨so,tx,nu,k⟩])++(bU z (s.data.toList.drop z)).1,(bU z (s.data.toList.drop z)).2)):=Lib.hid (by
        have ht2:=ht;rw[hdr] at ht2;rw[HL.out,hdr,eS _ _ _ hbl h35 ht2,<-hdr,List.drop_drop,hzz];simp)
       rw[ht] at htk;simp only[hTx,hzz] at htk;have HFL:Hid ((ts++[(⟨so,tx,nu,k⟩:LTok)]).flatMap bm=ts.flatMap bm++[.int .u8 so,.string Tx,I nu,I (k:Int)]∧(ts++[(⟨so,tx,nu,k⟩:LTok)]).length=nn+1):=Lib.hid (by
        refine⟨?_,by rw[List.length_append,HTS.out];rfl⟩;rw[List.flatMap_append,<-hTx];rfl)
       have hzk:k+1<=z∧z<=s.size:=by omega
       clear ht hdr hbn hbl HL hb hTx hl2 hzz;obtain⟨bI,kN⟩:∃x:Int,(b.toNat:Int)=x:=⟨_,rfl⟩
       rw[kN] at e32 e9 e13 e10 e35 hbe;clear kN h35 jv;go_wp2_with fail;refine htk.mono ?_;rintro e w4 ⟨rfl,n4⟩;have ka:New w4 ((w4.alloc (.cells #[.int .u8 so,.string Tx,I nu,I (k:Int)] 98)).alloc (.cells #[.int .u8 so,.string Tx,I nu,I (k:Int)] 98)):=((New.refl _).alloc _).alloc _;have HO4:=Lib.hid ((n4.trans ka).owns HO.out);have HN4:=Lib.hid (hN.trans (n4.trans ka));have HZ4:=Lib.hid (Keeps.heap (n4.trans ka) HZ.out (fun h=>h));have hb4:w.heap.size<=((w4.alloc (.cells #[.int .u8 so,.string Tx,I nu,I (k:Int)] 98)).alloc (.cells #[.int .u8 so,.string Tx,I nu,I (k:Int)] 98)).heap.size:=Nat.le_trans hsz (n4.trans ka).size;clear hN n4 ka htk;go_wp2_with (at_builtin;refine aR rfl _ _ 88 rfl w.heap.size 98 i0 _ 4 40 Tryz.underlying88 hi0 hz0 hz1 hz2 rfl (by decide) a nn c (ts.flatMap bm) rfl ?own _ 1 1 [.int .u8 so,.string Tx,I nu,I (k:Int)] rfl rfl ?lit ?one ?c1 ?c2 ?c3 ?_);case own=>exact HO4.out
       case lit=>
        have h:=ar.lit (w4.alloc (.cells #[.int .u8 so,.string Tx,I nu,I (k:Int)] 98)) #[.int .u8 so,.string Tx,I nu,I (k:Int)] 98;have e:(w4.alloc (.cells #[.int .u8 so,.string Tx,I nu,I (k:Int)] 98)).heap.size=w4.heap.size+1:=by simp
        rw[e] at h;exact h
       case one=>intro u hu;simp only[List.mem_cons,List.not_mem_nil,or_false] at hu;rcases hu with rfl|rfl|rfl|rfl<;>rfl
       case c1=>unfold maxLen;omega
       case c2=>omega
       case c3=>exact hb4
       intro a2 c2 w5 lV hk5 _ _;have HN5:=Lib.hid (New.keeps HN4.out hk5 (fun i hi hx=>by have:=(ai HO4.out hx).1;omega));have HO5:Hid (w5.ownsRow w.heap.size 98 4 (.slice a2 (nn+1) c2) (nn+1) ((ts++[(⟨so,tx,nu,k⟩:LTok)]).flatMap bm)):=Lib.hid (by rw[HFL.out.1];exact lV);have HZ5:Hid (w5.heap[w.heap.size]? =some (.cells #[I 0,I 0] 33 (0,0))):=Lib.hid (hk5.heap HZ4.out (fun hx=>by
        obtain⟨cur,hc⟩:=j0 HO4.out (lq hx);rw[HZ4.out] at hc;simp at hc))
       clear lV hk5;go_wp2_with fail;go_roundw
       case rel=>exact⟨z,_,a2,c2,nn+1,hzk.2,by first|rfl|go_num,by rfl,by omega,Lib.hid HFL.out.2,HL2,HN5.out,HZ5,HO5⟩
       case measure=>simp[intOf];omega
   ·have hkI:¬(k:Int)<(s.size:Int):=by omega
    have hke:k=s.size:=by omega
    have hLE:bU 0 s.data.toList=(ts,none):=by rw[HL.out,hke,rB,eK,List.append_nil]
    have HLA:=Lib.hid (pI HBG.out hLE);have hsz:=hN.size;have ka:New wr (wr.alloc (.cells #[.int .u8 0,.string ⟨#[]⟩,I 0,I (s.size:Int)] 98)):=(New.refl _).alloc _;have lU:∀u∈[Value.int .u8 0,.string ⟨#[]⟩,I 0,I (s.size:Int)],u.oneCell'=true:=by intro u hu;simp only[List.mem_cons,List.not_mem_nil,or_false] at hu;rcases hu with rfl|rfl|rfl|rfl<;>rfl
    clear hLE hke;go_wp2_with (at_builtin;refine aR rfl _ _ 88 rfl w.heap.size 98 i0 _ 4 40 Tryz.underlying88 hi0 hz0 hz1 hz2 rfl (by decide) a nn c (ts.flatMap bm) rfl (ka.owns HO.out) _ 1 1 [.int .u8 0,.string ⟨#[]⟩,I 0,I (s.size:Int)] rfl rfl (ar.lit _ _ _) lU (by unfold maxLen;omega) (by omega) (Nat.le_trans hsz ka.size) ?_);intro a2 c2 w5 lV hk5 _ _;have hz5:w5.heap[w.heap.size]? =some (.cells #[I 0,I 0] 33 (0,0)):=hk5.heap (Keeps.heap ka HZ.out (fun h=>h)) (fun hx=>by
     obtain⟨cur,hc⟩:=j0 (ka.owns HO.out) (lq hx);rw[Keeps.heap ka HZ.out (fun h=>h)] at hc;simp at hc)
    have hN5:New w w5:=New.keeps (hN.trans ka) hk5 (fun i hi hx=>by have:=(ai HO.out hx).1;omega);obtain⟨u0,u1,v0,v1,hu⟩:=fG hz5;obtain⟨hst,kst⟩:=ju hz5 (I 0) (I 0);obtain⟨x0,x1,y0,y1,hBB⟩:=fG hst;have HF:Hid (PO (.returned (.tuple #[.slice a2 (nn+1) c2,.agg #[I 0,I 0]])) ((w5.setCell ⟨w.heap.size,0,none⟩ (I 0)).setCell ⟨w.heap.size,1,none⟩ (I 0))):=Lib.hid (by
     rw[HPO.out];unfold iR;rw[HLA.out];have hll:(ts++[(⟨0,[],0,s.size⟩:LTok)]).length=nn+1:=by rw[List.length_append,HTS.out];rfl
     simp only[hll];refine⟨a2,c2,rfl,New.keeps hN5 kst (fun i hi hx=>by omega),?_⟩;have ho5:=lp lV kst (fun g hg=>⟨_,_,_,hg▸hz5,by decide⟩);rw[List.flatMap_append];exact ho5)
    clear hst kst hz5 lV hk5 hN5 ka hN;go_wp2_with fail;refine bodyPost_ret (v:= .tuple #[.slice a2 (nn+1) c2,.agg #[I 0,I 0]]) (by simp[results,Tryz.results58,go_sem,x0,x1,y0,y1,hBB]) rfl ?_;exact HF.out
end Go.Proofs.YtnedmonlofbahaaGreatDoor
