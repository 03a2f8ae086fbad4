/-
  ShapeD, ShapeE, ShapeO, ShapeW: what is wanted of them.
-/
import Derived.Test.YtnedmonlofbahaaGreatDoorBsB
import Derived.Test.YtnedmonlofbahaaGreatDoorDbl
import Derived.Deep.DeepCutAuto
namespace Go.Proofs.YtnedmonlofbahaaGreatDoor
open Go Go.RowKit
set_option linter.all false
theorem aH (n:Int) (r:Int) (w:World) (hn:0<=n∧n<=64):
  Calls Tryz.prog 144 #[I n,I r] w fun e w'=>∃ao c,e= .returned (.slice ao n.toNat c)∧bp w' w.heap.size ao c (List.replicate n.toNat r)∧New w w':=by
 obtain⟨k,rfl⟩:=Int.eq_ofNat_of_zero_le hn.1;exact pb k r w (by omega)
theorem bA (n m:Int) (h1:1<=n) (h2:n<=16) (h3:1<=m) (h4:m<=64):1<=n*m∧n*m<=1024:=by
 have a:=Int.mul_le_mul h1 h3 (by omega) (by omega);have b:=Int.mul_le_mul h2 h4 (by omega) (by omega);exact⟨by simpa using a,by simpa using b⟩
theorem aF (x:Int) (w:World):
  Calls Tryz.prog 143 #[.slice (some ⟨w.heap.size,0,none⟩) 1 1] (w.alloc (.cells #[.int .i64 x] 3)) fun e w'=>∃ao' c',e= .returned (.slice ao' 1 c')∧bp w' (w.alloc (.cells #[.int .i64 x] 3)).heap.size ao' c' [x]∧New (w.alloc (.cells #[.int .i64 x] 3)) w':=
 jW _ 1 [x] _ (am.lit _ _ _) (by simp)
theorem aG (x y:Int) (w:World):
  Calls Tryz.prog 143 #[.slice (some ⟨w.heap.size,0,none⟩) 2 2] (w.alloc (.cells #[.int .i64 x,.int .i64 y] 3)) fun e w'=>∃ao' c',e= .returned (.slice ao' 2 c')∧bp w' (w.alloc (.cells #[.int .i64 x,.int .i64 y] 3)).heap.size ao' c' [x,y]∧New (w.alloc (.cells #[.int .i64 x,.int .i64 y] 3)) w':=
 jW _ 2 [x,y] _ (am.lit _ _ _) (by simp)
theorem av.mk2 {w w0 w1 w1' w2:World} {a b:Option Addr} {ca cb na nb:Nat} {xs ys xs' ys':List Int} (h0:New w w0) (ha:bp w1 w0.heap.size a ca xs) (h1:New w0 w1) (h1':New w1 w1') (hb:bp w2 w1'.heap.size b cb ys) (h2:New w1' w2)
  (hxs:xs=xs'∧na=xs'.length) (hys:ys=ys'∧nb=ys'.length):
  av w (0,xs',ys') (.returned (.tuple #[.slice a na ca,.slice b nb cb,I 0])) w2:=
 av.mk h0 (ha.new h1') (h1.trans h1') hb h2 hxs hys
set_option maxRecDepth 100000 in
set_option maxHeartbeats 1000000 in
theorem s8 (ao:Option Addr) (c:Nat) (w:World) (hx:am w ao (Is [])):
  Calls Tryz.prog 125 #[.int .u8 1,.slice ao ([]:List Int).length c] w (av w (aj 1 [])):=by
 go_enter Tryz.func125,Tryz.ntmps125;have hr:aj 1 []=(61,[],[]):=by rfl
 have HR:=Lib.hid hr;clear hr;go_wp2_with (first|(go_at_call 142;refine(ag _ _ _).mono ?_;rintro e w' ⟨rfl,rfl⟩)|(go_at_call 144;refine(aH _ _ _ (by omega)).mono ?_;rintro e w' ⟨ao',c',rfl,hown',hnew'⟩)|(go_at_call 143;(with_reducible refine(aF _ _).mono ?_);rintro e w' ⟨ao',c',rfl,hown',hnew'⟩)|(go_at_call 143;(with_reducible refine(aG _ _ _).mono ?_);rintro e w' ⟨ao',c',rfl,hown',hnew'⟩));go_ret3
 rw[HR.out];exact av.none _ _ _ (New.refl _)
set_option maxRecDepth 100000 in
set_option maxHeartbeats 1000000 in
theorem s9 (ao:Option Addr) (c:Nat) (w:World) (hx:am w ao (Is [])):
  Calls Tryz.prog 125 #[.int .u8 2,.slice ao ([]:List Int).length c] w (av w (aj 2 [])):=by
 go_enter Tryz.func125,Tryz.ntmps125;have hr:aj 2 []=(61,[],[]):=by rfl
 have HR:=Lib.hid hr;clear hr;go_wp2_with (first|(go_at_call 142;refine(ag _ _ _).mono ?_;rintro e w' ⟨rfl,rfl⟩)|(go_at_call 144;refine(aH _ _ _ (by omega)).mono ?_;rintro e w' ⟨ao',c',rfl,hown',hnew'⟩)|(go_at_call 143;(with_reducible refine(aF _ _).mono ?_);rintro e w' ⟨ao',c',rfl,hown',hnew'⟩)|(go_at_call 143;(with_reducible refine(aG _ _ _).mono ?_);rintro e w' ⟨ao',c',rfl,hown',hnew'⟩));go_ret3
 rw[HR.out];exact av.none _ _ _ (New.refl _)
set_option maxRecDepth 100000 in
set_option maxHeartbeats 1000000 in
theorem tb (ao:Option Addr) (c:Nat) (w:World) (hx:am w ao (Is [])):
  Calls Tryz.prog 125 #[.int .u8 3,.slice ao ([]:List Int).length c] w (av w (aj 3 [])):=by
 go_enter Tryz.func125,Tryz.ntmps125;have hr:aj 3 []=(61,[],[]):=by rfl
 have HR:=Lib.hid hr;clear hr;go_wp2_with (first|(go_at_call 142;refine(ag _ _ _).mono ?_;rintro e w' ⟨rfl,rfl⟩)|(go_at_call 144;refine(aH _ _ _ (by omega)).mono ?_;rintro e w' ⟨ao',c',rfl,hown',hnew'⟩)|(go_at_call 143;(with_reducible refine(aF _ _).mono ?_);rintro e w' ⟨ao',c',rfl,hown',hnew'⟩)|(go_at_call 143;(with_reducible refine(aG _ _ _).mono ?_);rintro e w' ⟨ao',c',rfl,hown',hnew'⟩));go_ret3
 rw[HR.out];exact av.none _ _ _ (New.refl _)
set_option maxRecDepth 100000 in
set_option maxHeartbeats 1000000 in
theorem tc (ao:Option Addr) (c:Nat) (w:World) (hx:am w ao (Is [])):
  Calls Tryz.prog 125 #[.int .u8 4,.slice ao ([]:List Int).length c] w (av w (aj 4 [])):=by
 go_enter Tryz.func125,Tryz.ntmps125;have hr:aj 4 []=(61,[],[]):=by rfl
 have HR:=Lib.hid hr;clear hr;go_wp2_with (first|(go_at_call 142;refine(ag _ _ _).mono ?_;rintro e w' ⟨rfl,rfl⟩)|(go_at_call 144;refine(aH _ _ _ (by omega)).mono ?_;rintro e w' ⟨ao',c',rfl,hown',hnew'⟩)|(go_at_call 143;(with_reducible refine(aF _ _).mono ?_);rintro e w' ⟨ao',c',rfl,hown',hnew'⟩)|(go_at_call 143;(with_reducible refine(aG _ _ _).mono ?_);rintro e w' ⟨ao',c',rfl,hown',hnew'⟩));go_ret3
 rw[HR.out];exact av.none _ _ _ (New.refl _)
set_option maxRecDepth 100000 in
set_option maxHeartbeats 1000000 in
theorem td (ao:Option Addr) (c:Nat) (w:World) (hx:am w ao (Is [])):
  Calls Tryz.prog 125 #[.int .u8 5,.slice ao ([]:List Int).length c] w (av w (aj 5 [])):=by
 go_enter Tryz.func125,Tryz.ntmps125;have hr:aj 5 []=(61,[],[]):=by rfl
 have HR:=Lib.hid hr;clear hr;go_wp2_with (first|(go_at_call 142;refine(ag _ _ _).mono ?_;rintro e w' ⟨rfl,rfl⟩)|(go_at_call 144;refine(aH _ _ _ (by omega)).mono ?_;rintro e w' ⟨ao',c',rfl,hown',hnew'⟩)|(go_at_call 143;(with_reducible refine(aF _ _).mono ?_);rintro e w' ⟨ao',c',rfl,hown',hnew'⟩)|(go_at_call 143;(with_reducible refine(aG _ _ _).mono ?_);rintro e w' ⟨ao',c',rfl,hown',hnew'⟩));go_ret3
 rw[HR.out];exact av.none _ _ _ (New.refl _)
set_option maxRecDepth 100000 in
set_option maxHeartbeats 1000000 in
theorem te (ao:Option Addr) (c:Nat) (w:World) (hx:am w ao (Is [])):
  Calls Tryz.prog 125 #[.int .u8 6,.slice ao ([]:List Int).length c] w (av w (aj 6 [])):=by
 go_enter Tryz.func125,Tryz.ntmps125;have hr:aj 6 []=(61,[],[]):=by rfl
 have HR:=Lib.hid hr;clear hr;go_wp2_with (first|(go_at_call 142;refine(ag _ _ _).mono ?_;rintro e w' ⟨rfl,rfl⟩)|(go_at_call 144;refine(aH _ _ _ (by omega)).mono ?_;rintro e w' ⟨ao',c',rfl,hown',hnew'⟩)|(go_at_call 143;(with_reducible refine(aF _ _).mono ?_);rintro e w' ⟨ao',c',rfl,hown',hnew'⟩)|(go_at_call 143;(with_reducible refine(aG _ _ _).mono ?_);rintro e w' ⟨ao',c',rfl,hown',hnew'⟩));go_ret3
 rw[HR.out];exact av.none _ _ _ (New.refl _)
set_option maxRecDepth 100000 in
set_option maxHeartbeats 1000000 in
theorem tf (ao:Option Addr) (c:Nat) (w:World) (hx:am w ao (Is [])):
  Calls Tryz.prog 125 #[.int .u8 7,.slice ao ([]:List Int).length c] w (av w (aj 7 [])):=by
 go_enter Tryz.func125,Tryz.ntmps125;have hr:aj 7 []=(0,[1,1],[1]):=by rfl
 have HR:=Lib.hid hr;clear hr;go_wp2_with (first|(go_at_call 142;refine(ag _ _ _).mono ?_;rintro e w' ⟨rfl,rfl⟩)|(go_at_call 144;refine(aH _ _ _ (by omega)).mono ?_;rintro e w' ⟨ao',c',rfl,hown',hnew'⟩)|(go_at_call 143;(with_reducible refine(aF _ _).mono ?_);rintro e w' ⟨ao',c',rfl,hown',hnew'⟩)|(go_at_call 143;(with_reducible refine(aG _ _ _).mono ?_);rintro e w' ⟨ao',c',rfl,hown',hnew'⟩));go_ret3
 rw[HR.out];exact av.mk2 (Keeps.alloc _ _) (by assumption) (by assumption) (Keeps.alloc _ _) hown' hnew' (by simp) (by simp)
set_option maxRecDepth 100000 in
set_option maxHeartbeats 1000000 in
theorem th (ao:Option Addr) (c:Nat) (w:World) (hx:am w ao (Is [])):
  Calls Tryz.prog 125 #[.int .u8 8,.slice ao ([]:List Int).length c] w (av w (aj 8 [])):=by
 go_enter Tryz.func125,Tryz.ntmps125;have hr:aj 8 []=(0,[1],[1]):=by rfl
 have HR:=Lib.hid hr;clear hr;go_wp2_with (first|(go_at_call 142;refine(ag _ _ _).mono ?_;rintro e w' ⟨rfl,rfl⟩)|(go_at_call 144;refine(aH _ _ _ (by omega)).mono ?_;rintro e w' ⟨ao',c',rfl,hown',hnew'⟩)|(go_at_call 143;(with_reducible refine(aF _ _).mono ?_);rintro e w' ⟨ao',c',rfl,hown',hnew'⟩)|(go_at_call 143;(with_reducible refine(aG _ _ _).mono ?_);rintro e w' ⟨ao',c',rfl,hown',hnew'⟩));go_ret3
 rw[HR.out];exact av.mk2 (Keeps.alloc _ _) (by assumption) (by assumption) (Keeps.alloc _ _) hown' hnew' (by simp) (by simp)
set_option maxRecDepth 100000 in
set_option maxHeartbeats 1000000 in
theorem ti (ao:Option Addr) (c:Nat) (w:World) (hx:am w ao (Is [])):
  Calls Tryz.prog 125 #[.int .u8 9,.slice ao ([]:List Int).length c] w (av w (aj 9 [])):=by
 go_enter Tryz.func125,Tryz.ntmps125;have hr:aj 9 []=(61,[],[]):=by rfl
 have HR:=Lib.hid hr;clear hr;go_wp2_with (first|(go_at_call 142;refine(ag _ _ _).mono ?_;rintro e w' ⟨rfl,rfl⟩)|(go_at_call 144;refine(aH _ _ _ (by omega)).mono ?_;rintro e w' ⟨ao',c',rfl,hown',hnew'⟩)|(go_at_call 143;(with_reducible refine(aF _ _).mono ?_);rintro e w' ⟨ao',c',rfl,hown',hnew'⟩)|(go_at_call 143;(with_reducible refine(aG _ _ _).mono ?_);rintro e w' ⟨ao',c',rfl,hown',hnew'⟩));go_ret3
 rw[HR.out];exact av.none _ _ _ (New.refl _)
set_option maxRecDepth 100000 in
set_option maxHeartbeats 1000000 in
theorem rr (ao:Option Addr) (c:Nat) (w:World) (hx:am w ao (Is [])):
  Calls Tryz.prog 125 #[.int .u8 10,.slice ao ([]:List Int).length c] w (av w (aj 10 [])):=by
 go_enter Tryz.func125,Tryz.ntmps125;have hr:aj 10 []=(61,[],[]):=by rfl
 have HR:=Lib.hid hr;clear hr;go_wp2_with (first|(go_at_call 142;refine(ag _ _ _).mono ?_;rintro e w' ⟨rfl,rfl⟩)|(go_at_call 144;refine(aH _ _ _ (by omega)).mono ?_;rintro e w' ⟨ao',c',rfl,hown',hnew'⟩)|(go_at_call 143;(with_reducible refine(aF _ _).mono ?_);rintro e w' ⟨ao',c',rfl,hown',hnew'⟩)|(go_at_call 143;(with_reducible refine(aG _ _ _).mono ?_);rintro e w' ⟨ao',c',rfl,hown',hnew'⟩));go_ret3
 rw[HR.out];exact av.none _ _ _ (New.refl _)
set_option maxRecDepth 100000 in
set_option maxHeartbeats 1000000 in
theorem rs (ao:Option Addr) (c:Nat) (w:World) (hx:am w ao (Is [])):
  Calls Tryz.prog 125 #[.int .u8 11,.slice ao ([]:List Int).length c] w (av w (aj 11 [])):=by
 go_enter Tryz.func125,Tryz.ntmps125;have hr:aj 11 []=(61,[],[]):=by rfl
 have HR:=Lib.hid hr;clear hr;go_wp2_with (first|(go_at_call 142;refine(ag _ _ _).mono ?_;rintro e w' ⟨rfl,rfl⟩)|(go_at_call 144;refine(aH _ _ _ (by omega)).mono ?_;rintro e w' ⟨ao',c',rfl,hown',hnew'⟩)|(go_at_call 143;(with_reducible refine(aF _ _).mono ?_);rintro e w' ⟨ao',c',rfl,hown',hnew'⟩)|(go_at_call 143;(with_reducible refine(aG _ _ _).mono ?_);rintro e w' ⟨ao',c',rfl,hown',hnew'⟩));go_ret3
 rw[HR.out];exact av.none _ _ _ (New.refl _)
set_option maxRecDepth 100000 in
set_option maxHeartbeats 1000000 in
theorem tj (n:Int) (ao:Option Addr) (c:Nat) (w:World) (hx:am w ao (Is [n])):
  Calls Tryz.prog 125 #[.int .u8 1,.slice ao ([n]:List Int).length c] w (av w (aj 1 [n])):=by
 obtain⟨b,off,rfl,hc⟩:=aT hx (i:=0) (by simp);simp only[Nat.add_zero,List.getElem_cons_zero] at hc;go_enter Tryz.func125,Tryz.ntmps125;have hr:aj 1 [n]=(0,[1],[1]):=by rfl
 have HR:=Lib.hid hr;clear hr;go_wp2_with (first|(go_at_call 142;refine(ag _ _ _).mono ?_;rintro e w' ⟨rfl,rfl⟩)|(go_at_call 144;refine(aH _ _ _ (by omega)).mono ?_;rintro e w' ⟨ao',c',rfl,hown',hnew'⟩)|(go_at_call 143;(with_reducible refine(aF _ _).mono ?_);rintro e w' ⟨ao',c',rfl,hown',hnew'⟩)|(go_at_call 143;(with_reducible refine(aG _ _ _).mono ?_);rintro e w' ⟨ao',c',rfl,hown',hnew'⟩));go_ret3
 rw[HR.out];exact av.mk2 (Keeps.alloc _ _) (by assumption) (by assumption) (Keeps.alloc _ _) hown' hnew' (by simp) (by simp)
set_option maxRecDepth 100000 in
set_option maxHeartbeats 1000000 in
theorem tl (n:Int) (ao:Option Addr) (c:Nat) (w:World) (hx:am w ao (Is [n])):
  Calls Tryz.prog 125 #[.int .u8 2,.slice ao ([n]:List Int).length c] w (av w (aj 2 [n])):=by
 obtain⟨b,off,rfl,hc⟩:=aT hx (i:=0) (by simp);simp only[Nat.add_zero,List.getElem_cons_zero] at hc;go_enter Tryz.func125,Tryz.ntmps125;by_cases h:1<=n∧n<=64
 ·have hd1:decide (1<=n∧n<=64)=true:=by simpa using h
  have hr:aj 2 [n]=(0,[1],[n]):=by simp[aQ,dJ,br,aj,dg,h]
  have HR:=Lib.hid hr;clear hr;obtain⟨h1,h2⟩:=h;go_wp2_with (first|(go_at_call 142;refine(ag _ _ _).mono ?_;rintro e w' ⟨rfl,rfl⟩)|(go_at_call 144;refine(aH _ _ _ (by omega)).mono ?_;rintro e w' ⟨ao',c',rfl,hown',hnew'⟩)|(go_at_call 143;(with_reducible refine(aF _ _).mono ?_);rintro e w' ⟨ao',c',rfl,hown',hnew'⟩)|(go_at_call 143;(with_reducible refine(aG _ _ _).mono ?_);rintro e w' ⟨ao',c',rfl,hown',hnew'⟩));go_ret3
  rw[HR.out];exact av.mk2 (Keeps.alloc _ _) (by assumption) (by assumption) (Keeps.alloc _ _) hown' hnew' (by simp) (by simp)
 ·have hd1:decide (1<=n∧n<=64)=false:=by simpa using h
  have hr:aj 2 [n]=(61,[],[]):=by simp only[aQ,dJ,br,aj,dg];simp[h];try omega
  have HR:=Lib.hid hr;clear hr;clear h;go_wp2_with (first|(go_at_call 142;refine(ag _ _ _).mono ?_;rintro e w' ⟨rfl,rfl⟩)|(go_at_call 144;refine(aH _ _ _ (by omega)).mono ?_;rintro e w' ⟨ao',c',rfl,hown',hnew'⟩)|(go_at_call 143;(with_reducible refine(aF _ _).mono ?_);rintro e w' ⟨ao',c',rfl,hown',hnew'⟩)|(go_at_call 143;(with_reducible refine(aG _ _ _).mono ?_);rintro e w' ⟨ao',c',rfl,hown',hnew'⟩));go_ret3
  rw[HR.out];exact av.none _ _ _ (New.refl _)
set_option maxRecDepth 100000 in
set_option maxHeartbeats 1000000 in
theorem tm (n:Int) (ao:Option Addr) (c:Nat) (w:World) (hx:am w ao (Is [n])):
  Calls Tryz.prog 125 #[.int .u8 3,.slice ao ([n]:List Int).length c] w (av w (aj 3 [n])):=by
 obtain⟨b,off,rfl,hc⟩:=aT hx (i:=0) (by simp);simp only[Nat.add_zero,List.getElem_cons_zero] at hc;go_enter Tryz.func125,Tryz.ntmps125;by_cases h:1<=n∧n<=64
 ·have hd1:decide (1<=n∧n<=64)=true:=by simpa using h
  have hr:aj 3 [n]=(0,[n],[1]):=by simp[aQ,dJ,br,aj,dg,h]
  have HR:=Lib.hid hr;clear hr;obtain⟨h1,h2⟩:=h;go_wp2_with (first|(go_at_call 142;refine(ag _ _ _).mono ?_;rintro e w' ⟨rfl,rfl⟩)|(go_at_call 144;refine(aH _ _ _ (by omega)).mono ?_;rintro e w' ⟨ao',c',rfl,hown',hnew'⟩)|(go_at_call 143;(with_reducible refine(aF _ _).mono ?_);rintro e w' ⟨ao',c',rfl,hown',hnew'⟩)|(go_at_call 143;(with_reducible refine(aG _ _ _).mono ?_);rintro e w' ⟨ao',c',rfl,hown',hnew'⟩));go_ret3
  rw[HR.out];exact av.mk2 (Keeps.alloc _ _) (by assumption) (by assumption) (Keeps.alloc _ _) hown' hnew' (by simp) (by simp)
 ·have hd1:decide (1<=n∧n<=64)=false:=by simpa using h
  have hr:aj 3 [n]=(61,[],[]):=by simp only[aQ,dJ,br,aj,dg];simp[h];try omega
  have HR:=Lib.hid hr;clear hr;clear h;go_wp2_with (first|(go_at_call 142;refine(ag _ _ _).mono ?_;rintro e w' ⟨rfl,rfl⟩)|(go_at_call 144;refine(aH _ _ _ (by omega)).mono ?_;rintro e w' ⟨ao',c',rfl,hown',hnew'⟩)|(go_at_call 143;(with_reducible refine(aF _ _).mono ?_);rintro e w' ⟨ao',c',rfl,hown',hnew'⟩)|(go_at_call 143;(with_reducible refine(aG _ _ _).mono ?_);rintro e w' ⟨ao',c',rfl,hown',hnew'⟩));go_ret3
  rw[HR.out];exact av.none _ _ _ (New.refl _)
set_option maxRecDepth 100000 in
set_option maxHeartbeats 1000000 in
theorem tq (n:Int) (ao:Option Addr) (c:Nat) (w:World) (hx:am w ao (Is [n])):
  Calls Tryz.prog 125 #[.int .u8 4,.slice ao ([n]:List Int).length c] w (av w (aj 4 [n])):=by
 obtain⟨b,off,rfl,hc⟩:=aT hx (i:=0) (by simp);simp only[Nat.add_zero,List.getElem_cons_zero] at hc;go_enter Tryz.func125,Tryz.ntmps125;have hr:aj 4 [n]=(61,[],[]):=by rfl
 have HR:=Lib.hid hr;clear hr;go_wp2_with (first|(go_at_call 142;refine(ag _ _ _).mono ?_;rintro e w' ⟨rfl,rfl⟩)|(go_at_call 144;refine(aH _ _ _ (by omega)).mono ?_;rintro e w' ⟨ao',c',rfl,hown',hnew'⟩)|(go_at_call 143;(with_reducible refine(aF _ _).mono ?_);rintro e w' ⟨ao',c',rfl,hown',hnew'⟩)|(go_at_call 143;(with_reducible refine(aG _ _ _).mono ?_);rintro e w' ⟨ao',c',rfl,hown',hnew'⟩));go_ret3
 rw[HR.out];exact av.none _ _ _ (New.refl _)
set_option maxRecDepth 100000 in
set_option maxHeartbeats 1000000 in
theorem tt (n:Int) (ao:Option Addr) (c:Nat) (w:World) (hx:am w ao (Is [n])):
  Calls Tryz.prog 125 #[.int .u8 5,.slice ao ([n]:List Int).length c] w (av w (aj 5 [n])):=by
 obtain⟨b,off,rfl,hc⟩:=aT hx (i:=0) (by simp);simp only[Nat.add_zero,List.getElem_cons_zero] at hc;go_enter Tryz.func125,Tryz.ntmps125;have hr:aj 5 [n]=(61,[],[]):=by rfl
 have HR:=Lib.hid hr;clear hr;go_wp2_with (first|(go_at_call 142;refine(ag _ _ _).mono ?_;rintro e w' ⟨rfl,rfl⟩)|(go_at_call 144;refine(aH _ _ _ (by omega)).mono ?_;rintro e w' ⟨ao',c',rfl,hown',hnew'⟩)|(go_at_call 143;(with_reducible refine(aF _ _).mono ?_);rintro e w' ⟨ao',c',rfl,hown',hnew'⟩)|(go_at_call 143;(with_reducible refine(aG _ _ _).mono ?_);rintro e w' ⟨ao',c',rfl,hown',hnew'⟩));go_ret3
 rw[HR.out];exact av.none _ _ _ (New.refl _)
set_option maxRecDepth 100000 in
set_option maxHeartbeats 1000000 in
theorem tv (n:Int) (ao:Option Addr) (c:Nat) (w:World) (hx:am w ao (Is [n])):
  Calls Tryz.prog 125 #[.int .u8 6,.slice ao ([n]:List Int).length c] w (av w (aj 6 [n])):=by
 obtain⟨b,off,rfl,hc⟩:=aT hx (i:=0) (by simp);simp only[Nat.add_zero,List.getElem_cons_zero] at hc;go_enter Tryz.func125,Tryz.ntmps125;by_cases h:1<=n∧n<=16
 ·have hd1:decide (1<=n∧n<=16)=true:=by simpa using h
  have hr:aj 6 [n]=(0,List.replicate n.toNat 1,[1]):=by simp[aQ,dJ,br,aj,dg,h]
  have HR:=Lib.hid hr;clear hr;obtain⟨h1,h2⟩:=h;go_wp2_with (first|(go_at_call 142;refine(ag _ _ _).mono ?_;rintro e w' ⟨rfl,rfl⟩)|(go_at_call 144;refine(aH _ _ _ (by omega)).mono ?_;rintro e w' ⟨ao',c',rfl,hown',hnew'⟩)|(go_at_call 143;(with_reducible refine(aF _ _).mono ?_);rintro e w' ⟨ao',c',rfl,hown',hnew'⟩)|(go_at_call 143;(with_reducible refine(aG _ _ _).mono ?_);rintro e w' ⟨ao',c',rfl,hown',hnew'⟩));go_ret3
  rw[HR.out];exact av.mk2 (Keeps.refl _ _) (by assumption) (by assumption) (Keeps.alloc _ _) hown' hnew' (by simp) (by simp)
 ·have hd1:decide (1<=n∧n<=16)=false:=by simpa using h
  have hr:aj 6 [n]=(61,[],[]):=by simp only[aQ,dJ,br,aj,dg];simp[h];try omega
  have HR:=Lib.hid hr;clear hr;clear h;go_wp2_with (first|(go_at_call 142;refine(ag _ _ _).mono ?_;rintro e w' ⟨rfl,rfl⟩)|(go_at_call 144;refine(aH _ _ _ (by omega)).mono ?_;rintro e w' ⟨ao',c',rfl,hown',hnew'⟩)|(go_at_call 143;(with_reducible refine(aF _ _).mono ?_);rintro e w' ⟨ao',c',rfl,hown',hnew'⟩)|(go_at_call 143;(with_reducible refine(aG _ _ _).mono ?_);rintro e w' ⟨ao',c',rfl,hown',hnew'⟩));go_ret3
  rw[HR.out];exact av.none _ _ _ (New.refl _)
set_option maxRecDepth 100000 in
set_option maxHeartbeats 1000000 in
theorem tw (n:Int) (ao:Option Addr) (c:Nat) (w:World) (hx:am w ao (Is [n])):
  Calls Tryz.prog 125 #[.int .u8 7,.slice ao ([n]:List Int).length c] w (av w (aj 7 [n])):=by
 obtain⟨b,off,rfl,hc⟩:=aT hx (i:=0) (by simp);simp only[Nat.add_zero,List.getElem_cons_zero] at hc;go_enter Tryz.func125,Tryz.ntmps125;have hr:aj 7 [n]=(61,[],[]):=by rfl
 have HR:=Lib.hid hr;clear hr;go_wp2_with (first|(go_at_call 142;refine(ag _ _ _).mono ?_;rintro e w' ⟨rfl,rfl⟩)|(go_at_call 144;refine(aH _ _ _ (by omega)).mono ?_;rintro e w' ⟨ao',c',rfl,hown',hnew'⟩)|(go_at_call 143;(with_reducible refine(aF _ _).mono ?_);rintro e w' ⟨ao',c',rfl,hown',hnew'⟩)|(go_at_call 143;(with_reducible refine(aG _ _ _).mono ?_);rintro e w' ⟨ao',c',rfl,hown',hnew'⟩));go_ret3
 rw[HR.out];exact av.none _ _ _ (New.refl _)
set_option maxRecDepth 100000 in
set_option maxHeartbeats 1000000 in
theorem tz (n:Int) (ao:Option Addr) (c:Nat) (w:World) (hx:am w ao (Is [n])):
  Calls Tryz.prog 125 #[.int .u8 8,.slice ao ([n]:List Int).length c] w (av w (aj 8 [n])):=by
 obtain⟨b,off,rfl,hc⟩:=aT hx (i:=0) (by simp);simp only[Nat.add_zero,List.getElem_cons_zero] at hc;go_enter Tryz.func125,Tryz.ntmps125;have hr:aj 8 [n]=(61,[],[]):=by rfl
 have HR:=Lib.hid hr;clear hr;go_wp2_with (first|(go_at_call 142;refine(ag _ _ _).mono ?_;rintro e w' ⟨rfl,rfl⟩)|(go_at_call 144;refine(aH _ _ _ (by omega)).mono ?_;rintro e w' ⟨ao',c',rfl,hown',hnew'⟩)|(go_at_call 143;(with_reducible refine(aF _ _).mono ?_);rintro e w' ⟨ao',c',rfl,hown',hnew'⟩)|(go_at_call 143;(with_reducible refine(aG _ _ _).mono ?_);rintro e w' ⟨ao',c',rfl,hown',hnew'⟩));go_ret3
 rw[HR.out];exact av.none _ _ _ (New.refl _)
set_option maxRecDepth 100000 in
set_option maxHeartbeats 1000000 in
theorem tA (n:Int) (ao:Option Addr) (c:Nat) (w:World) (hx:am w ao (Is [n])):
  Calls Tryz.prog 125 #[.int .u8 9,.slice ao ([n]:List Int).length c] w (av w (aj 9 [n])):=by
 obtain⟨b,off,rfl,hc⟩:=aT hx (i:=0) (by simp);simp only[Nat.add_zero,List.getElem_cons_zero] at hc;go_enter Tryz.func125,Tryz.ntmps125;by_cases h:1<=n∧n<=16
 ·have hd1:decide (1<=n∧n<=16)=true:=by simpa using h
  have hr:aj 9 [n]=(0,[1],List.replicate n.toNat 1):=by simp[aQ,dJ,br,aj,dg,h]
  have HR:=Lib.hid hr;clear hr;obtain⟨h1,h2⟩:=h;go_wp2_with (first|(go_at_call 142;refine(ag _ _ _).mono ?_;rintro e w' ⟨rfl,rfl⟩)|(go_at_call 144;refine(aH _ _ _ (by omega)).mono ?_;rintro e w' ⟨ao',c',rfl,hown',hnew'⟩)|(go_at_call 143;(with_reducible refine(aF _ _).mono ?_);rintro e w' ⟨ao',c',rfl,hown',hnew'⟩)|(go_at_call 143;(with_reducible refine(aG _ _ _).mono ?_);rintro e w' ⟨ao',c',rfl,hown',hnew'⟩));go_ret3
  rw[HR.out];exact av.mk2 (Keeps.alloc _ _) (by assumption) (by assumption) (Keeps.refl _ _) hown' hnew' (by simp) (by simp)
 ·have hd1:decide (1<=n∧n<=16)=false:=by simpa using h
  have hr:aj 9 [n]=(61,[],[]):=by simp only[aQ,dJ,br,aj,dg];simp[h];try omega
  have HR:=Lib.hid hr;clear hr;clear h;go_wp2_with (first|(go_at_call 142;refine(ag _ _ _).mono ?_;rintro e w' ⟨rfl,rfl⟩)|(go_at_call 144;refine(aH _ _ _ (by omega)).mono ?_;rintro e w' ⟨ao',c',rfl,hown',hnew'⟩)|(go_at_call 143;(with_reducible refine(aF _ _).mono ?_);rintro e w' ⟨ao',c',rfl,hown',hnew'⟩)|(go_at_call 143;(with_reducible refine(aG _ _ _).mono ?_);rintro e w' ⟨ao',c',rfl,hown',hnew'⟩));go_ret3
  rw[HR.out];exact av.none _ _ _ (New.refl _)
set_option maxRecDepth 100000 in
set_option maxHeartbeats 1000000 in
theorem ru (n:Int) (ao:Option Addr) (c:Nat) (w:World) (hx:am w ao (Is [n])):
  Calls Tryz.prog 125 #[.int .u8 10,.slice ao ([n]:List Int).length c] w (av w (aj 10 [n])):=by
 obtain⟨b,off,rfl,hc⟩:=aT hx (i:=0) (by simp);simp only[Nat.add_zero,List.getElem_cons_zero] at hc;go_enter Tryz.func125,Tryz.ntmps125;have hr:aj 10 [n]=(61,[],[]):=by rfl
 have HR:=Lib.hid hr;clear hr;go_wp2_with (first|(go_at_call 142;refine(ag _ _ _).mono ?_;rintro e w' ⟨rfl,rfl⟩)|(go_at_call 144;refine(aH _ _ _ (by omega)).mono ?_;rintro e w' ⟨ao',c',rfl,hown',hnew'⟩)|(go_at_call 143;(with_reducible refine(aF _ _).mono ?_);rintro e w' ⟨ao',c',rfl,hown',hnew'⟩)|(go_at_call 143;(with_reducible refine(aG _ _ _).mono ?_);rintro e w' ⟨ao',c',rfl,hown',hnew'⟩));go_ret3
 rw[HR.out];exact av.none _ _ _ (New.refl _)
set_option maxRecDepth 100000 in
set_option maxHeartbeats 1000000 in
theorem rv (n:Int) (ao:Option Addr) (c:Nat) (w:World) (hx:am w ao (Is [n])):
  Calls Tryz.prog 125 #[.int .u8 11,.slice ao ([n]:List Int).length c] w (av w (aj 11 [n])):=by
 obtain⟨b,off,rfl,hc⟩:=aT hx (i:=0) (by simp);simp only[Nat.add_zero,List.getElem_cons_zero] at hc;go_enter Tryz.func125,Tryz.ntmps125;by_cases h:1<=n∧n<=64
 ·have hd1:decide (1<=n∧n<=64)=true:=by simpa using h
  have hr:aj 11 [n]=(0,[n],[]):=by simp[aQ,dJ,br,aj,dg,h]
  have HR:=Lib.hid hr;clear hr;obtain⟨h1,h2⟩:=h;go_wp2_with (first|(go_at_call 142;refine(ag _ _ _).mono ?_;rintro e w' ⟨rfl,rfl⟩)|(go_at_call 144;refine(aH _ _ _ (by omega)).mono ?_;rintro e w' ⟨ao',c',rfl,hown',hnew'⟩)|(go_at_call 143;(with_reducible refine(aF _ _).mono ?_);rintro e w' ⟨ao',c',rfl,hown',hnew'⟩)|(go_at_call 143;(with_reducible refine(aG _ _ _).mono ?_);rintro e w' ⟨ao',c',rfl,hown',hnew'⟩));go_ret3
  rw[HR.out];exact av.fst (Keeps.alloc _ _) hown' hnew' (by simp)
 ·have hd1:decide (1<=n∧n<=64)=false:=by simpa using h
  have hr:aj 11 [n]=(61,[],[]):=by simp only[aQ,dJ,br,aj,dg];simp[h];try omega
  have HR:=Lib.hid hr;clear hr;clear h;go_wp2_with (first|(go_at_call 142;refine(ag _ _ _).mono ?_;rintro e w' ⟨rfl,rfl⟩)|(go_at_call 144;refine(aH _ _ _ (by omega)).mono ?_;rintro e w' ⟨ao',c',rfl,hown',hnew'⟩)|(go_at_call 143;(with_reducible refine(aF _ _).mono ?_);rintro e w' ⟨ao',c',rfl,hown',hnew'⟩)|(go_at_call 143;(with_reducible refine(aG _ _ _).mono ?_);rintro e w' ⟨ao',c',rfl,hown',hnew'⟩));go_ret3
  rw[HR.out];exact av.none _ _ _ (New.refl _)
end Go.Proofs.YtnedmonlofbahaaGreatDoor
namespace Go.Proofs.YtnedmonlofbahaaGreatDoor
open Go Go.RowKit
set_option linter.all false
set_option maxRecDepth 100000 in
set_option maxHeartbeats 1000000 in
theorem tB (n m:Int) (ao:Option Addr) (c:Nat) (w:World) (hx:am w ao (Is [n,m])):
  Calls Tryz.prog 125 #[.int .u8 1,.slice ao ([n,m]:List Int).length c] w (av w (aj 1 [n,m])):=by
 obtain⟨b,off,rfl,hc⟩:=aT hx (i:=0) (by simp);obtain⟨b',off',e,hd⟩:=aT hx (i:=1) (by simp);simp only[Option.some.injEq,Addr.mk.injEq,and_true] at e;obtain⟨rfl,rfl⟩:=e;simp only[List.getElem_cons_zero,List.getElem_cons_succ] at hd;simp only[Nat.add_zero,List.getElem_cons_zero] at hc;go_enter Tryz.func125,Tryz.ntmps125;go_upto_region 9 with((go_at_call 142;refine(ag _ _ _).mono ?_;rintro e w' ⟨rfl,rfl⟩))
 go_cut [10] (fun s w'=>s= .bool (br [n,m])∧w'=w)
 case first=>
  by_cases h1:1<=n∧n<=16
  ·by_cases h2:1<=m∧m<=64
   ·have hb:=bA n m h1.1 h1.2 h2.1 h2.2;have hd1:decide (1<=n∧n<=16)=true:=by simpa using h1
    have hd2:decide (1<=m∧m<=64)=true:=by simpa using h2
    obtain⟨hb1,hb2⟩:=hb;go_wp2_with (first|(go_at_call 142;refine(ag _ _ _).mono ?_;rintro e w' ⟨rfl,rfl⟩));go_meet
    case rel=>exact⟨by simp[br,h1,h2],rfl⟩
   ·have hd1:decide (1<=n∧n<=16)=true:=by simpa using h1
    have hd2:decide (1<=m∧m<=64)=false:=by simpa using h2
    go_wp2_with (first|(go_at_call 142;refine(ag _ _ _).mono ?_;rintro e w' ⟨rfl,rfl⟩));go_meet
    case rel=>exact⟨by simp[br];omega,rfl⟩
  ·have hd1:decide (1<=n∧n<=16)=false:=by simpa using h1
   go_wp2_with (first|(go_at_call 142;refine(ag _ _ _).mono ?_;rintro e w' ⟨rfl,rfl⟩));go_meet
   case rel=>exact⟨by simp[br];omega,rfl⟩
 case rest=>
  obtain⟨rfl,rfl⟩:=hcut;have hr:aj 1 [n,m]=(0,[1],[1]):=by rfl
  have HR:=Lib.hid hr;clear hr;go_wp2_with (first|(go_at_call 142;refine(ag _ _ _).mono ?_;rintro e w' ⟨rfl,rfl⟩)|(go_at_call 144;refine(aH _ _ _ (by omega)).mono ?_;rintro e w' ⟨ao',c',rfl,hown',hnew'⟩)|(go_at_call 143;(with_reducible refine(aF _ _).mono ?_);rintro e w' ⟨ao',c',rfl,hown',hnew'⟩)|(go_at_call 143;(with_reducible refine(aG _ _ _).mono ?_);rintro e w' ⟨ao',c',rfl,hown',hnew'⟩));go_ret3
  rw[HR.out];exact av.mk2 (Keeps.alloc _ _) (by assumption) (by assumption) (Keeps.alloc _ _) hown' hnew' (by simp) (by simp)
set_option maxRecDepth 100000 in
set_option maxHeartbeats 1000000 in
theorem tC (n m:Int) (ao:Option Addr) (c:Nat) (w:World) (hx:am w ao (Is [n,m])):
  Calls Tryz.prog 125 #[.int .u8 2,.slice ao ([n,m]:List Int).length c] w (av w (aj 2 [n,m])):=by
 obtain⟨b,off,rfl,hc⟩:=aT hx (i:=0) (by simp);obtain⟨b',off',e,hd⟩:=aT hx (i:=1) (by simp);simp only[Option.some.injEq,Addr.mk.injEq,and_true] at e;obtain⟨rfl,rfl⟩:=e;simp only[List.getElem_cons_zero,List.getElem_cons_succ] at hd;simp only[Nat.add_zero,List.getElem_cons_zero] at hc;go_enter Tryz.func125,Tryz.ntmps125;go_upto_region 9 with((go_at_call 142;refine(ag _ _ _).mono ?_;rintro e w' ⟨rfl,rfl⟩))
 go_cut [10] (fun s w'=>s= .bool (br [n,m])∧w'=w)
 case first=>
  by_cases h1:1<=n∧n<=16
  ·by_cases h2:1<=m∧m<=64
   ·have hb:=bA n m h1.1 h1.2 h2.1 h2.2;have hd1:decide (1<=n∧n<=16)=true:=by simpa using h1
    have hd2:decide (1<=m∧m<=64)=true:=by simpa using h2
    obtain⟨hb1,hb2⟩:=hb;go_wp2_with (first|(go_at_call 142;refine(ag _ _ _).mono ?_;rintro e w' ⟨rfl,rfl⟩));go_meet
    case rel=>exact⟨by simp[br,h1,h2],rfl⟩
   ·have hd1:decide (1<=n∧n<=16)=true:=by simpa using h1
    have hd2:decide (1<=m∧m<=64)=false:=by simpa using h2
    go_wp2_with (first|(go_at_call 142;refine(ag _ _ _).mono ?_;rintro e w' ⟨rfl,rfl⟩));go_meet
    case rel=>exact⟨by simp[br];omega,rfl⟩
  ·have hd1:decide (1<=n∧n<=16)=false:=by simpa using h1
   go_wp2_with (first|(go_at_call 142;refine(ag _ _ _).mono ?_;rintro e w' ⟨rfl,rfl⟩));go_meet
   case rel=>exact⟨by simp[br];omega,rfl⟩
 case rest=>
  obtain⟨rfl,rfl⟩:=hcut;have hr:aj 2 [n,m]=(61,[],[]):=by rfl
  have HR:=Lib.hid hr;clear hr;go_wp2_with (first|(go_at_call 142;refine(ag _ _ _).mono ?_;rintro e w' ⟨rfl,rfl⟩)|(go_at_call 144;refine(aH _ _ _ (by omega)).mono ?_;rintro e w' ⟨ao',c',rfl,hown',hnew'⟩)|(go_at_call 143;(with_reducible refine(aF _ _).mono ?_);rintro e w' ⟨ao',c',rfl,hown',hnew'⟩)|(go_at_call 143;(with_reducible refine(aG _ _ _).mono ?_);rintro e w' ⟨ao',c',rfl,hown',hnew'⟩));go_ret3
  rw[HR.out];exact av.none _ _ _ (New.refl _)
set_option maxRecDepth 100000 in
set_option maxHeartbeats 1000000 in
theorem tD (n m:Int) (ao:Option Addr) (c:Nat) (w:World) (hx:am w ao (Is [n,m])):
  Calls Tryz.prog 125 #[.int .u8 3,.slice ao ([n,m]:List Int).length c] w (av w (aj 3 [n,m])):=by
 obtain⟨b,off,rfl,hc⟩:=aT hx (i:=0) (by simp);obtain⟨b',off',e,hd⟩:=aT hx (i:=1) (by simp);simp only[Option.some.injEq,Addr.mk.injEq,and_true] at e;obtain⟨rfl,rfl⟩:=e;simp only[List.getElem_cons_zero,List.getElem_cons_succ] at hd;simp only[Nat.add_zero,List.getElem_cons_zero] at hc;go_enter Tryz.func125,Tryz.ntmps125;go_upto_region 9 with((go_at_call 142;refine(ag _ _ _).mono ?_;rintro e w' ⟨rfl,rfl⟩))
 go_cut [10] (fun s w'=>s= .bool (br [n,m])∧w'=w)
 case first=>
  by_cases h1:1<=n∧n<=16
  ·by_cases h2:1<=m∧m<=64
   ·have hb:=bA n m h1.1 h1.2 h2.1 h2.2;have hd1:decide (1<=n∧n<=16)=true:=by simpa using h1
    have hd2:decide (1<=m∧m<=64)=true:=by simpa using h2
    obtain⟨hb1,hb2⟩:=hb;go_wp2_with (first|(go_at_call 142;refine(ag _ _ _).mono ?_;rintro e w' ⟨rfl,rfl⟩));go_meet
    case rel=>exact⟨by simp[br,h1,h2],rfl⟩
   ·have hd1:decide (1<=n∧n<=16)=true:=by simpa using h1
    have hd2:decide (1<=m∧m<=64)=false:=by simpa using h2
    go_wp2_with (first|(go_at_call 142;refine(ag _ _ _).mono ?_;rintro e w' ⟨rfl,rfl⟩));go_meet
    case rel=>exact⟨by simp[br];omega,rfl⟩
  ·have hd1:decide (1<=n∧n<=16)=false:=by simpa using h1
   go_wp2_with (first|(go_at_call 142;refine(ag _ _ _).mono ?_;rintro e w' ⟨rfl,rfl⟩));go_meet
   case rel=>exact⟨by simp[br];omega,rfl⟩
 case rest=>
  obtain⟨rfl,rfl⟩:=hcut;have hr:aj 3 [n,m]=(61,[],[]):=by rfl
  have HR:=Lib.hid hr;clear hr;go_wp2_with (first|(go_at_call 142;refine(ag _ _ _).mono ?_;rintro e w' ⟨rfl,rfl⟩)|(go_at_call 144;refine(aH _ _ _ (by omega)).mono ?_;rintro e w' ⟨ao',c',rfl,hown',hnew'⟩)|(go_at_call 143;(with_reducible refine(aF _ _).mono ?_);rintro e w' ⟨ao',c',rfl,hown',hnew'⟩)|(go_at_call 143;(with_reducible refine(aG _ _ _).mono ?_);rintro e w' ⟨ao',c',rfl,hown',hnew'⟩));go_ret3
  rw[HR.out];exact av.none _ _ _ (New.refl _)
set_option maxRecDepth 100000 in
set_option maxHeartbeats 1000000 in
theorem tE (n m:Int) (ao:Option Addr) (c:Nat) (w:World) (hx:am w ao (Is [n,m])):
  Calls Tryz.prog 125 #[.int .u8 4,.slice ao ([n,m]:List Int).length c] w (av w (aj 4 [n,m])):=by
 obtain⟨b,off,rfl,hc⟩:=aT hx (i:=0) (by simp);obtain⟨b',off',e,hd⟩:=aT hx (i:=1) (by simp);simp only[Option.some.injEq,Addr.mk.injEq,and_true] at e;obtain⟨rfl,rfl⟩:=e;simp only[List.getElem_cons_zero,List.getElem_cons_succ] at hd;simp only[Nat.add_zero,List.getElem_cons_zero] at hc;go_enter Tryz.func125,Tryz.ntmps125;go_upto_region 9 with((go_at_call 142;refine(ag _ _ _).mono ?_;rintro e w' ⟨rfl,rfl⟩))
 go_cut [10] (fun s w'=>s= .bool (br [n,m])∧w'=w)
 case first=>
  by_cases h1:1<=n∧n<=16
  ·by_cases h2:1<=m∧m<=64
   ·have hb:=bA n m h1.1 h1.2 h2.1 h2.2;have hd1:decide (1<=n∧n<=16)=true:=by simpa using h1
    have hd2:decide (1<=m∧m<=64)=true:=by simpa using h2
    obtain⟨hb1,hb2⟩:=hb;go_wp2_with (first|(go_at_call 142;refine(ag _ _ _).mono ?_;rintro e w' ⟨rfl,rfl⟩));go_meet
    case rel=>exact⟨by simp[br,h1,h2],rfl⟩
   ·have hd1:decide (1<=n∧n<=16)=true:=by simpa using h1
    have hd2:decide (1<=m∧m<=64)=false:=by simpa using h2
    go_wp2_with (first|(go_at_call 142;refine(ag _ _ _).mono ?_;rintro e w' ⟨rfl,rfl⟩));go_meet
    case rel=>exact⟨by simp[br];omega,rfl⟩
  ·have hd1:decide (1<=n∧n<=16)=false:=by simpa using h1
   go_wp2_with (first|(go_at_call 142;refine(ag _ _ _).mono ?_;rintro e w' ⟨rfl,rfl⟩));go_meet
   case rel=>exact⟨by simp[br];omega,rfl⟩
 case rest=>
  obtain⟨rfl,rfl⟩:=hcut;by_cases h:br [n,m]=true
  ·have h':1<=n∧n<=16∧1<=m∧m<=64∧n*m<=64:=by simpa[br] using h
   obtain⟨h1,h2,h3,h4,h5⟩:=h';have hb:=bA n m h1 h2 h3 h4;obtain⟨hb1,hb2⟩:=hb;have hr:aj 4 [n,m]=(0,List.replicate n.toNat m,[n*m]):=by simp[aj,aQ,dg,h]
   have HR:=Lib.hid hr;clear hr;go_wp2_with (first|(go_at_call 142;refine(ag _ _ _).mono ?_;rintro e w' ⟨rfl,rfl⟩)|(go_at_call 144;refine(aH _ _ _ (by omega)).mono ?_;rintro e w' ⟨ao',c',rfl,hown',hnew'⟩)|(go_at_call 143;(with_reducible refine(aF _ _).mono ?_);rintro e w' ⟨ao',c',rfl,hown',hnew'⟩)|(go_at_call 143;(with_reducible refine(aG _ _ _).mono ?_);rintro e w' ⟨ao',c',rfl,hown',hnew'⟩));go_ret3
   rw[HR.out];exact av.mk2 (Keeps.refl _ _) (by assumption) (by assumption) (Keeps.alloc _ _) hown' hnew' (by simp) (by simp)
  ·have h':br [n,m]=false:=by simpa using h
   have hr:aj 4 [n,m]=(61,[],[]):=by simp[aj,aQ,h']
   have HR:=Lib.hid hr;clear hr;go_wp2_with (first|(go_at_call 142;refine(ag _ _ _).mono ?_;rintro e w' ⟨rfl,rfl⟩)|(go_at_call 144;refine(aH _ _ _ (by omega)).mono ?_;rintro e w' ⟨ao',c',rfl,hown',hnew'⟩)|(go_at_call 143;(with_reducible refine(aF _ _).mono ?_);rintro e w' ⟨ao',c',rfl,hown',hnew'⟩)|(go_at_call 143;(with_reducible refine(aG _ _ _).mono ?_);rintro e w' ⟨ao',c',rfl,hown',hnew'⟩));go_ret3
   rw[HR.out];exact av.none _ _ _ (New.refl _)
set_option maxRecDepth 100000 in
set_option maxHeartbeats 1000000 in
theorem tF (n m:Int) (ao:Option Addr) (c:Nat) (w:World) (hx:am w ao (Is [n,m])):
  Calls Tryz.prog 125 #[.int .u8 5,.slice ao ([n,m]:List Int).length c] w (av w (aj 5 [n,m])):=by
 obtain⟨b,off,rfl,hc⟩:=aT hx (i:=0) (by simp);obtain⟨b',off',e,hd⟩:=aT hx (i:=1) (by simp);simp only[Option.some.injEq,Addr.mk.injEq,and_true] at e;obtain⟨rfl,rfl⟩:=e;simp only[List.getElem_cons_zero,List.getElem_cons_succ] at hd;simp only[Nat.add_zero,List.getElem_cons_zero] at hc;go_enter Tryz.func125,Tryz.ntmps125;go_upto_region 9 with((go_at_call 142;refine(ag _ _ _).mono ?_;rintro e w' ⟨rfl,rfl⟩))
 go_cut [10] (fun s w'=>s= .bool (br [n,m])∧w'=w)
 case first=>
  by_cases h1:1<=n∧n<=16
  ·by_cases h2:1<=m∧m<=64
   ·have hb:=bA n m h1.1 h1.2 h2.1 h2.2;have hd1:decide (1<=n∧n<=16)=true:=by simpa using h1
    have hd2:decide (1<=m∧m<=64)=true:=by simpa using h2
    obtain⟨hb1,hb2⟩:=hb;go_wp2_with (first|(go_at_call 142;refine(ag _ _ _).mono ?_;rintro e w' ⟨rfl,rfl⟩));go_meet
    case rel=>exact⟨by simp[br,h1,h2],rfl⟩
   ·have hd1:decide (1<=n∧n<=16)=true:=by simpa using h1
    have hd2:decide (1<=m∧m<=64)=false:=by simpa using h2
    go_wp2_with (first|(go_at_call 142;refine(ag _ _ _).mono ?_;rintro e w' ⟨rfl,rfl⟩));go_meet
    case rel=>exact⟨by simp[br];omega,rfl⟩
  ·have hd1:decide (1<=n∧n<=16)=false:=by simpa using h1
   go_wp2_with (first|(go_at_call 142;refine(ag _ _ _).mono ?_;rintro e w' ⟨rfl,rfl⟩));go_meet
   case rel=>exact⟨by simp[br];omega,rfl⟩
 case rest=>
  obtain⟨rfl,rfl⟩:=hcut;by_cases h:br [n,m]=true
  ·have h':1<=n∧n<=16∧1<=m∧m<=64∧n*m<=64:=by simpa[br] using h
   obtain⟨h1,h2,h3,h4,h5⟩:=h';have hb:=bA n m h1 h2 h3 h4;obtain⟨hb1,hb2⟩:=hb;have hr:aj 5 [n,m]=(0,[n*m],List.replicate n.toNat m):=by simp[aj,aQ,dg,h]
   have HR:=Lib.hid hr;clear hr;go_wp2_with (first|(go_at_call 142;refine(ag _ _ _).mono ?_;rintro e w' ⟨rfl,rfl⟩)|(go_at_call 144;refine(aH _ _ _ (by omega)).mono ?_;rintro e w' ⟨ao',c',rfl,hown',hnew'⟩)|(go_at_call 143;(with_reducible refine(aF _ _).mono ?_);rintro e w' ⟨ao',c',rfl,hown',hnew'⟩)|(go_at_call 143;(with_reducible refine(aG _ _ _).mono ?_);rintro e w' ⟨ao',c',rfl,hown',hnew'⟩));go_ret3
   rw[HR.out];exact av.mk2 (Keeps.alloc _ _) (by assumption) (by assumption) (Keeps.refl _ _) hown' hnew' (by simp) (by simp)
  ·have h':br [n,m]=false:=by simpa using h
   have hr:aj 5 [n,m]=(61,[],[]):=by simp[aj,aQ,h']
   have HR:=Lib.hid hr;clear hr;go_wp2_with (first|(go_at_call 142;refine(ag _ _ _).mono ?_;rintro e w' ⟨rfl,rfl⟩)|(go_at_call 144;refine(aH _ _ _ (by omega)).mono ?_;rintro e w' ⟨ao',c',rfl,hown',hnew'⟩)|(go_at_call 143;(with_reducible refine(aF _ _).mono ?_);rintro e w' ⟨ao',c',rfl,hown',hnew'⟩)|(go_at_call 143;(with_reducible refine(aG _ _ _).mono ?_);rintro e w' ⟨ao',c',rfl,hown',hnew'⟩));go_ret3
   rw[HR.out];exact av.none _ _ _ (New.refl _)
set_option maxRecDepth 100000 in
set_option maxHeartbeats 1000000 in
theorem tG (n m:Int) (ao:Option Addr) (c:Nat) (w:World) (hx:am w ao (Is [n,m])):
  Calls Tryz.prog 125 #[.int .u8 6,.slice ao ([n,m]:List Int).length c] w (av w (aj 6 [n,m])):=by
 obtain⟨b,off,rfl,hc⟩:=aT hx (i:=0) (by simp);obtain⟨b',off',e,hd⟩:=aT hx (i:=1) (by simp);simp only[Option.some.injEq,Addr.mk.injEq,and_true] at e;obtain⟨rfl,rfl⟩:=e;simp only[List.getElem_cons_zero,List.getElem_cons_succ] at hd;simp only[Nat.add_zero,List.getElem_cons_zero] at hc;go_enter Tryz.func125,Tryz.ntmps125;go_upto_region 9 with((go_at_call 142;refine(ag _ _ _).mono ?_;rintro e w' ⟨rfl,rfl⟩))
 go_cut [10] (fun s w'=>s= .bool (br [n,m])∧w'=w)
 case first=>
  by_cases h1:1<=n∧n<=16
  ·by_cases h2:1<=m∧m<=64
   ·have hb:=bA n m h1.1 h1.2 h2.1 h2.2;have hd1:decide (1<=n∧n<=16)=true:=by simpa using h1
    have hd2:decide (1<=m∧m<=64)=true:=by simpa using h2
    obtain⟨hb1,hb2⟩:=hb;go_wp2_with (first|(go_at_call 142;refine(ag _ _ _).mono ?_;rintro e w' ⟨rfl,rfl⟩));go_meet
    case rel=>exact⟨by simp[br,h1,h2],rfl⟩
   ·have hd1:decide (1<=n∧n<=16)=true:=by simpa using h1
    have hd2:decide (1<=m∧m<=64)=false:=by simpa using h2
    go_wp2_with (first|(go_at_call 142;refine(ag _ _ _).mono ?_;rintro e w' ⟨rfl,rfl⟩));go_meet
    case rel=>exact⟨by simp[br];omega,rfl⟩
  ·have hd1:decide (1<=n∧n<=16)=false:=by simpa using h1
   go_wp2_with (first|(go_at_call 142;refine(ag _ _ _).mono ?_;rintro e w' ⟨rfl,rfl⟩));go_meet
   case rel=>exact⟨by simp[br];omega,rfl⟩
 case rest=>
  obtain⟨rfl,rfl⟩:=hcut;have hr:aj 6 [n,m]=(61,[],[]):=by rfl
  have HR:=Lib.hid hr;clear hr;go_wp2_with (first|(go_at_call 142;refine(ag _ _ _).mono ?_;rintro e w' ⟨rfl,rfl⟩)|(go_at_call 144;refine(aH _ _ _ (by omega)).mono ?_;rintro e w' ⟨ao',c',rfl,hown',hnew'⟩)|(go_at_call 143;(with_reducible refine(aF _ _).mono ?_);rintro e w' ⟨ao',c',rfl,hown',hnew'⟩)|(go_at_call 143;(with_reducible refine(aG _ _ _).mono ?_);rintro e w' ⟨ao',c',rfl,hown',hnew'⟩));go_ret3
  rw[HR.out];exact av.none _ _ _ (New.refl _)
set_option maxRecDepth 100000 in
set_option maxHeartbeats 1000000 in
theorem tH (n m:Int) (ao:Option Addr) (c:Nat) (w:World) (hx:am w ao (Is [n,m])):
  Calls Tryz.prog 125 #[.int .u8 7,.slice ao ([n,m]:List Int).length c] w (av w (aj 7 [n,m])):=by
 obtain⟨b,off,rfl,hc⟩:=aT hx (i:=0) (by simp);obtain⟨b',off',e,hd⟩:=aT hx (i:=1) (by simp);simp only[Option.some.injEq,Addr.mk.injEq,and_true] at e;obtain⟨rfl,rfl⟩:=e;simp only[List.getElem_cons_zero,List.getElem_cons_succ] at hd;simp only[Nat.add_zero,List.getElem_cons_zero] at hc;go_enter Tryz.func125,Tryz.ntmps125;go_upto_region 9 with((go_at_call 142;refine(ag _ _ _).mono ?_;rintro e w' ⟨rfl,rfl⟩))
 go_cut [10] (fun s w'=>s= .bool (br [n,m])∧w'=w)
 case first=>
  by_cases h1:1<=n∧n<=16
  ·by_cases h2:1<=m∧m<=64
   ·have hb:=bA n m h1.1 h1.2 h2.1 h2.2;have hd1:decide (1<=n∧n<=16)=true:=by simpa using h1
    have hd2:decide (1<=m∧m<=64)=true:=by simpa using h2
    obtain⟨hb1,hb2⟩:=hb;go_wp2_with (first|(go_at_call 142;refine(ag _ _ _).mono ?_;rintro e w' ⟨rfl,rfl⟩));go_meet
    case rel=>exact⟨by simp[br,h1,h2],rfl⟩
   ·have hd1:decide (1<=n∧n<=16)=true:=by simpa using h1
    have hd2:decide (1<=m∧m<=64)=false:=by simpa using h2
    go_wp2_with (first|(go_at_call 142;refine(ag _ _ _).mono ?_;rintro e w' ⟨rfl,rfl⟩));go_meet
    case rel=>exact⟨by simp[br];omega,rfl⟩
  ·have hd1:decide (1<=n∧n<=16)=false:=by simpa using h1
   go_wp2_with (first|(go_at_call 142;refine(ag _ _ _).mono ?_;rintro e w' ⟨rfl,rfl⟩));go_meet
   case rel=>exact⟨by simp[br];omega,rfl⟩
 case rest=>
  obtain⟨rfl,rfl⟩:=hcut;have hr:aj 7 [n,m]=(61,[],[]):=by rfl
  have HR:=Lib.hid hr;clear hr;go_wp2_with (first|(go_at_call 142;refine(ag _ _ _).mono ?_;rintro e w' ⟨rfl,rfl⟩)|(go_at_call 144;refine(aH _ _ _ (by omega)).mono ?_;rintro e w' ⟨ao',c',rfl,hown',hnew'⟩)|(go_at_call 143;(with_reducible refine(aF _ _).mono ?_);rintro e w' ⟨ao',c',rfl,hown',hnew'⟩)|(go_at_call 143;(with_reducible refine(aG _ _ _).mono ?_);rintro e w' ⟨ao',c',rfl,hown',hnew'⟩));go_ret3
  rw[HR.out];exact av.none _ _ _ (New.refl _)
set_option maxRecDepth 100000 in
set_option maxHeartbeats 1000000 in
theorem tI (n m:Int) (ao:Option Addr) (c:Nat) (w:World) (hx:am w ao (Is [n,m])):
  Calls Tryz.prog 125 #[.int .u8 8,.slice ao ([n,m]:List Int).length c] w (av w (aj 8 [n,m])):=by
 obtain⟨b,off,rfl,hc⟩:=aT hx (i:=0) (by simp);obtain⟨b',off',e,hd⟩:=aT hx (i:=1) (by simp);simp only[Option.some.injEq,Addr.mk.injEq,and_true] at e;obtain⟨rfl,rfl⟩:=e;simp only[List.getElem_cons_zero,List.getElem_cons_succ] at hd;simp only[Nat.add_zero,List.getElem_cons_zero] at hc;go_enter Tryz.func125,Tryz.ntmps125;go_upto_region 9 with((go_at_call 142;refine(ag _ _ _).mono ?_;rintro e w' ⟨rfl,rfl⟩))
 go_cut [10] (fun s w'=>s= .bool (br [n,m])∧w'=w)
 case first=>
  by_cases h1:1<=n∧n<=16
  ·by_cases h2:1<=m∧m<=64
   ·have hb:=bA n m h1.1 h1.2 h2.1 h2.2;have hd1:decide (1<=n∧n<=16)=true:=by simpa using h1
    have hd2:decide (1<=m∧m<=64)=true:=by simpa using h2
    obtain⟨hb1,hb2⟩:=hb;go_wp2_with (first|(go_at_call 142;refine(ag _ _ _).mono ?_;rintro e w' ⟨rfl,rfl⟩));go_meet
    case rel=>exact⟨by simp[br,h1,h2],rfl⟩
   ·have hd1:decide (1<=n∧n<=16)=true:=by simpa using h1
    have hd2:decide (1<=m∧m<=64)=false:=by simpa using h2
    go_wp2_with (first|(go_at_call 142;refine(ag _ _ _).mono ?_;rintro e w' ⟨rfl,rfl⟩));go_meet
    case rel=>exact⟨by simp[br];omega,rfl⟩
  ·have hd1:decide (1<=n∧n<=16)=false:=by simpa using h1
   go_wp2_with (first|(go_at_call 142;refine(ag _ _ _).mono ?_;rintro e w' ⟨rfl,rfl⟩));go_meet
   case rel=>exact⟨by simp[br];omega,rfl⟩
 case rest=>
  obtain⟨rfl,rfl⟩:=hcut;have hr:aj 8 [n,m]=(61,[],[]):=by rfl
  have HR:=Lib.hid hr;clear hr;go_wp2_with (first|(go_at_call 142;refine(ag _ _ _).mono ?_;rintro e w' ⟨rfl,rfl⟩)|(go_at_call 144;refine(aH _ _ _ (by omega)).mono ?_;rintro e w' ⟨ao',c',rfl,hown',hnew'⟩)|(go_at_call 143;(with_reducible refine(aF _ _).mono ?_);rintro e w' ⟨ao',c',rfl,hown',hnew'⟩)|(go_at_call 143;(with_reducible refine(aG _ _ _).mono ?_);rintro e w' ⟨ao',c',rfl,hown',hnew'⟩));go_ret3
  rw[HR.out];exact av.none _ _ _ (New.refl _)
set_option maxRecDepth 100000 in
set_option maxHeartbeats 1000000 in
theorem tJ (n m:Int) (ao:Option Addr) (c:Nat) (w:World) (hx:am w ao (Is [n,m])):
  Calls Tryz.prog 125 #[.int .u8 9,.slice ao ([n,m]:List Int).length c] w (av w (aj 9 [n,m])):=by
 obtain⟨b,off,rfl,hc⟩:=aT hx (i:=0) (by simp);obtain⟨b',off',e,hd⟩:=aT hx (i:=1) (by simp);simp only[Option.some.injEq,Addr.mk.injEq,and_true] at e;obtain⟨rfl,rfl⟩:=e;simp only[List.getElem_cons_zero,List.getElem_cons_succ] at hd;simp only[Nat.add_zero,List.getElem_cons_zero] at hc;go_enter Tryz.func125,Tryz.ntmps125;go_upto_region 9 with((go_at_call 142;refine(ag _ _ _).mono ?_;rintro e w' ⟨rfl,rfl⟩))
 go_cut [10] (fun s w'=>s= .bool (br [n,m])∧w'=w)
 case first=>
  by_cases h1:1<=n∧n<=16
  ·by_cases h2:1<=m∧m<=64
   ·have hb:=bA n m h1.1 h1.2 h2.1 h2.2;have hd1:decide (1<=n∧n<=16)=true:=by simpa using h1
    have hd2:decide (1<=m∧m<=64)=true:=by simpa using h2
    obtain⟨hb1,hb2⟩:=hb;go_wp2_with (first|(go_at_call 142;refine(ag _ _ _).mono ?_;rintro e w' ⟨rfl,rfl⟩));go_meet
    case rel=>exact⟨by simp[br,h1,h2],rfl⟩
   ·have hd1:decide (1<=n∧n<=16)=true:=by simpa using h1
    have hd2:decide (1<=m∧m<=64)=false:=by simpa using h2
    go_wp2_with (first|(go_at_call 142;refine(ag _ _ _).mono ?_;rintro e w' ⟨rfl,rfl⟩));go_meet
    case rel=>exact⟨by simp[br];omega,rfl⟩
  ·have hd1:decide (1<=n∧n<=16)=false:=by simpa using h1
   go_wp2_with (first|(go_at_call 142;refine(ag _ _ _).mono ?_;rintro e w' ⟨rfl,rfl⟩));go_meet
   case rel=>exact⟨by simp[br];omega,rfl⟩
 case rest=>
  obtain⟨rfl,rfl⟩:=hcut;have hr:aj 9 [n,m]=(61,[],[]):=by rfl
  have HR:=Lib.hid hr;clear hr;go_wp2_with (first|(go_at_call 142;refine(ag _ _ _).mono ?_;rintro e w' ⟨rfl,rfl⟩)|(go_at_call 144;refine(aH _ _ _ (by omega)).mono ?_;rintro e w' ⟨ao',c',rfl,hown',hnew'⟩)|(go_at_call 143;(with_reducible refine(aF _ _).mono ?_);rintro e w' ⟨ao',c',rfl,hown',hnew'⟩)|(go_at_call 143;(with_reducible refine(aG _ _ _).mono ?_);rintro e w' ⟨ao',c',rfl,hown',hnew'⟩));go_ret3
  rw[HR.out];exact av.none _ _ _ (New.refl _)
set_option maxRecDepth 100000 in
set_option maxHeartbeats 1000000 in
theorem rx (n m:Int) (ao:Option Addr) (c:Nat) (w:World) (hx:am w ao (Is [n,m])):
  Calls Tryz.prog 125 #[.int .u8 10,.slice ao ([n,m]:List Int).length c] w (av w (aj 10 [n,m])):=by
 obtain⟨b,off,rfl,hc⟩:=aT hx (i:=0) (by simp);obtain⟨b',off',e,hd⟩:=aT hx (i:=1) (by simp);simp only[Option.some.injEq,Addr.mk.injEq,and_true] at e;obtain⟨rfl,rfl⟩:=e;simp only[List.getElem_cons_zero,List.getElem_cons_succ] at hd;simp only[Nat.add_zero,List.getElem_cons_zero] at hc;go_enter Tryz.func125,Tryz.ntmps125;go_upto_region 9 with((go_at_call 142;refine(ag _ _ _).mono ?_;rintro e w' ⟨rfl,rfl⟩))
 go_cut [10] (fun s w'=>s= .bool (br [n,m])∧w'=w)
 case first=>
  by_cases h1:1<=n∧n<=16
  ·by_cases h2:1<=m∧m<=64
   ·have hb:=bA n m h1.1 h1.2 h2.1 h2.2;have hd1:decide (1<=n∧n<=16)=true:=by simpa using h1
    have hd2:decide (1<=m∧m<=64)=true:=by simpa using h2
    obtain⟨hb1,hb2⟩:=hb;go_wp2_with (first|(go_at_call 142;refine(ag _ _ _).mono ?_;rintro e w' ⟨rfl,rfl⟩));go_meet
    case rel=>exact⟨by simp[br,h1,h2],rfl⟩
   ·have hd1:decide (1<=n∧n<=16)=true:=by simpa using h1
    have hd2:decide (1<=m∧m<=64)=false:=by simpa using h2
    go_wp2_with (first|(go_at_call 142;refine(ag _ _ _).mono ?_;rintro e w' ⟨rfl,rfl⟩));go_meet
    case rel=>exact⟨by simp[br];omega,rfl⟩
  ·have hd1:decide (1<=n∧n<=16)=false:=by simpa using h1
   go_wp2_with (first|(go_at_call 142;refine(ag _ _ _).mono ?_;rintro e w' ⟨rfl,rfl⟩));go_meet
   case rel=>exact⟨by simp[br];omega,rfl⟩
 case rest=>
  obtain⟨rfl,rfl⟩:=hcut;have hr:aj 10 [n,m]=(0,[],[1]):=by rfl
  have HR:=Lib.hid hr;clear hr;go_wp2_with (first|(go_at_call 142;refine(ag _ _ _).mono ?_;rintro e w' ⟨rfl,rfl⟩)|(go_at_call 144;refine(aH _ _ _ (by omega)).mono ?_;rintro e w' ⟨ao',c',rfl,hown',hnew'⟩)|(go_at_call 143;(with_reducible refine(aF _ _).mono ?_);rintro e w' ⟨ao',c',rfl,hown',hnew'⟩)|(go_at_call 143;(with_reducible refine(aG _ _ _).mono ?_);rintro e w' ⟨ao',c',rfl,hown',hnew'⟩));go_ret3
  rw[HR.out];exact av.snd (Keeps.alloc _ _) hown' hnew' (by simp)
set_option maxRecDepth 100000 in
set_option maxHeartbeats 1000000 in
theorem ry (n m:Int) (ao:Option Addr) (c:Nat) (w:World) (hx:am w ao (Is [n,m])):
  Calls Tryz.prog 125 #[.int .u8 11,.slice ao ([n,m]:List Int).length c] w (av w (aj 11 [n,m])):=by
 obtain⟨b,off,rfl,hc⟩:=aT hx (i:=0) (by simp);obtain⟨b',off',e,hd⟩:=aT hx (i:=1) (by simp);simp only[Option.some.injEq,Addr.mk.injEq,and_true] at e;obtain⟨rfl,rfl⟩:=e;simp only[List.getElem_cons_zero,List.getElem_cons_succ] at hd;simp only[Nat.add_zero,List.getElem_cons_zero] at hc;go_enter Tryz.func125,Tryz.ntmps125;go_upto_region 9 with((go_at_call 142;refine(ag _ _ _).mono ?_;rintro e w' ⟨rfl,rfl⟩))
 go_cut [10] (fun s w'=>s= .bool (br [n,m])∧w'=w)
 case first=>
  by_cases h1:1<=n∧n<=16
  ·by_cases h2:1<=m∧m<=64
   ·have hb:=bA n m h1.1 h1.2 h2.1 h2.2;have hd1:decide (1<=n∧n<=16)=true:=by simpa using h1
    have hd2:decide (1<=m∧m<=64)=true:=by simpa using h2
    obtain⟨hb1,hb2⟩:=hb;go_wp2_with (first|(go_at_call 142;refine(ag _ _ _).mono ?_;rintro e w' ⟨rfl,rfl⟩));go_meet
    case rel=>exact⟨by simp[br,h1,h2],rfl⟩
   ·have hd1:decide (1<=n∧n<=16)=true:=by simpa using h1
    have hd2:decide (1<=m∧m<=64)=false:=by simpa using h2
    go_wp2_with (first|(go_at_call 142;refine(ag _ _ _).mono ?_;rintro e w' ⟨rfl,rfl⟩));go_meet
    case rel=>exact⟨by simp[br];omega,rfl⟩
  ·have hd1:decide (1<=n∧n<=16)=false:=by simpa using h1
   go_wp2_with (first|(go_at_call 142;refine(ag _ _ _).mono ?_;rintro e w' ⟨rfl,rfl⟩));go_meet
   case rel=>exact⟨by simp[br];omega,rfl⟩
 case rest=>
  obtain⟨rfl,rfl⟩:=hcut;have hr:aj 11 [n,m]=(61,[],[]):=by rfl
  have HR:=Lib.hid hr;clear hr;go_wp2_with (first|(go_at_call 142;refine(ag _ _ _).mono ?_;rintro e w' ⟨rfl,rfl⟩)|(go_at_call 144;refine(aH _ _ _ (by omega)).mono ?_;rintro e w' ⟨ao',c',rfl,hown',hnew'⟩)|(go_at_call 143;(with_reducible refine(aF _ _).mono ?_);rintro e w' ⟨ao',c',rfl,hown',hnew'⟩)|(go_at_call 143;(with_reducible refine(aG _ _ _).mono ?_);rintro e w' ⟨ao',c',rfl,hown',hnew'⟩));go_ret3
  rw[HR.out];exact av.none _ _ _ (New.refl _)
set_option maxRecDepth 100000 in
set_option maxHeartbeats 1000000 in
theorem tK (ps:List Int) (ao:Option Addr) (c:Nat) (w:World) (hx:am w ao (Is ps)) (h3:3<=ps.length) (hl:ps.length<=9223372036854775807):
  Calls Tryz.prog 125 #[.int .u8 1,.slice ao ps.length c] w (av w (aj 1 ps)):=by
 obtain⟨b,off,rfl,hc⟩:=aT hx (i:=0) (by omega);obtain⟨b',off',e,hd⟩:=aT hx (i:=1) (by omega);simp only[Option.some.injEq,Addr.mk.injEq,and_true] at e;obtain⟨rfl,rfl⟩:=e;simp only[Nat.add_zero] at hc;generalize ps[0]=n at hc;generalize ps[1]=m at hd;have e1:((ps.length:Int)==1)=false:=beq_eq_false_iff_ne.2 (by omega);have e2:((ps.length:Int)==2)=false:=beq_eq_false_iff_ne.2 (by omega);have e0:((ps.length:Int)==0)=false:=beq_eq_false_iff_ne.2 (by omega);have hone:∀k,dJ ps k=false:=fun k=>by match ps,h3 with|_::_::_::_,_=>rfl
 have htwo:br ps=false:=by match ps,h3 with|_::_::_::_,_=>rfl
 have n0:ps≠[]:=by rintro rfl;simp at h3
 by_cases h:ps.length<=16
 ·have hd1:decide (1<=(ps.length:Int)∧(ps.length:Int)<=16)=true:=by simp;omega
  have hr:aj 1 ps=(0,[1],[1]):=by simp[aj,aQ,dg,h];omega
  have HR:=Lib.hid hr;clear hr hone htwo n0;go_enter Tryz.func125,Tryz.ntmps125;go_wp2_with (first|(go_at_call 142;refine(ag _ _ _).mono ?_;rintro e w' ⟨rfl,rfl⟩)|(go_at_call 144;refine(aH _ _ _ (by omega)).mono ?_;rintro e w' ⟨ao',c',rfl,hown',hnew'⟩)|(go_at_call 143;(with_reducible refine(aF _ _).mono ?_);rintro e w' ⟨ao',c',rfl,hown',hnew'⟩)|(go_at_call 143;(with_reducible refine(aG _ _ _).mono ?_);rintro e w' ⟨ao',c',rfl,hown',hnew'⟩));go_ret3
  rw[HR.out];exact av.mk2 (Keeps.alloc _ _) (by assumption) (by assumption) (Keeps.alloc _ _) hown' hnew' (by simp) (by simp)
 ·have hd1:decide (1<=(ps.length:Int)∧(ps.length:Int)<=16)=false:=by simp;omega
  have hr:aj 1 ps=(61,[],[]):=by simp[aj,aQ];omega
  have HR:=Lib.hid hr;clear hr hone htwo n0;go_enter Tryz.func125,Tryz.ntmps125;go_wp2_with (first|(go_at_call 142;refine(ag _ _ _).mono ?_;rintro e w' ⟨rfl,rfl⟩)|(go_at_call 144;refine(aH _ _ _ (by omega)).mono ?_;rintro e w' ⟨ao',c',rfl,hown',hnew'⟩)|(go_at_call 143;(with_reducible refine(aF _ _).mono ?_);rintro e w' ⟨ao',c',rfl,hown',hnew'⟩)|(go_at_call 143;(with_reducible refine(aG _ _ _).mono ?_);rintro e w' ⟨ao',c',rfl,hown',hnew'⟩));go_ret3
  rw[HR.out];exact av.none _ _ _ (New.refl _)
set_option maxRecDepth 100000 in
set_option maxHeartbeats 1000000 in
theorem tL (ps:List Int) (ao:Option Addr) (c:Nat) (w:World) (hx:am w ao (Is ps)) (h3:3<=ps.length) (hl:ps.length<=9223372036854775807):
  Calls Tryz.prog 125 #[.int .u8 2,.slice ao ps.length c] w (av w (aj 2 ps)):=by
 obtain⟨b,off,rfl,hc⟩:=aT hx (i:=0) (by omega);obtain⟨b',off',e,hd⟩:=aT hx (i:=1) (by omega);simp only[Option.some.injEq,Addr.mk.injEq,and_true] at e;obtain⟨rfl,rfl⟩:=e;simp only[Nat.add_zero] at hc;generalize ps[0]=n at hc;generalize ps[1]=m at hd;have e1:((ps.length:Int)==1)=false:=beq_eq_false_iff_ne.2 (by omega);have e2:((ps.length:Int)==2)=false:=beq_eq_false_iff_ne.2 (by omega);have e0:((ps.length:Int)==0)=false:=beq_eq_false_iff_ne.2 (by omega);have hone:∀k,dJ ps k=false:=fun k=>by match ps,h3 with|_::_::_::_,_=>rfl
 have htwo:br ps=false:=by match ps,h3 with|_::_::_::_,_=>rfl
 have n0:ps≠[]:=by rintro rfl;simp at h3
 have hr:aj 2 ps=(61,[],[]):=by simp[aj,aQ,hone,htwo,n0]
 have HR:=Lib.hid hr;clear hr hone htwo n0;go_enter Tryz.func125,Tryz.ntmps125;go_wp2_with (first|(go_at_call 142;refine(ag _ _ _).mono ?_;rintro e w' ⟨rfl,rfl⟩)|(go_at_call 144;refine(aH _ _ _ (by omega)).mono ?_;rintro e w' ⟨ao',c',rfl,hown',hnew'⟩)|(go_at_call 143;(with_reducible refine(aF _ _).mono ?_);rintro e w' ⟨ao',c',rfl,hown',hnew'⟩)|(go_at_call 143;(with_reducible refine(aG _ _ _).mono ?_);rintro e w' ⟨ao',c',rfl,hown',hnew'⟩));go_ret3
 rw[HR.out];exact av.none _ _ _ (New.refl _)
set_option maxRecDepth 100000 in
set_option maxHeartbeats 1000000 in
theorem tM (ps:List Int) (ao:Option Addr) (c:Nat) (w:World) (hx:am w ao (Is ps)) (h3:3<=ps.length) (hl:ps.length<=9223372036854775807):
  Calls Tryz.prog 125 #[.int .u8 3,.slice ao ps.length c] w (av w (aj 3 ps)):=by
 obtain⟨b,off,rfl,hc⟩:=aT hx (i:=0) (by omega);obtain⟨b',off',e,hd⟩:=aT hx (i:=1) (by omega);simp only[Option.some.injEq,Addr.mk.injEq,and_true] at e;obtain⟨rfl,rfl⟩:=e;simp only[Nat.add_zero] at hc;generalize ps[0]=n at hc;generalize ps[1]=m at hd;have e1:((ps.length:Int)==1)=false:=beq_eq_false_iff_ne.2 (by omega);have e2:((ps.length:Int)==2)=false:=beq_eq_false_iff_ne.2 (by omega);have e0:((ps.length:Int)==0)=false:=beq_eq_false_iff_ne.2 (by omega);have hone:∀k,dJ ps k=false:=fun k=>by match ps,h3 with|_::_::_::_,_=>rfl
 have htwo:br ps=false:=by match ps,h3 with|_::_::_::_,_=>rfl
 have n0:ps≠[]:=by rintro rfl;simp at h3
 have hr:aj 3 ps=(61,[],[]):=by simp[aj,aQ,hone,htwo,n0]
 have HR:=Lib.hid hr;clear hr hone htwo n0;go_enter Tryz.func125,Tryz.ntmps125;go_wp2_with (first|(go_at_call 142;refine(ag _ _ _).mono ?_;rintro e w' ⟨rfl,rfl⟩)|(go_at_call 144;refine(aH _ _ _ (by omega)).mono ?_;rintro e w' ⟨ao',c',rfl,hown',hnew'⟩)|(go_at_call 143;(with_reducible refine(aF _ _).mono ?_);rintro e w' ⟨ao',c',rfl,hown',hnew'⟩)|(go_at_call 143;(with_reducible refine(aG _ _ _).mono ?_);rintro e w' ⟨ao',c',rfl,hown',hnew'⟩));go_ret3
 rw[HR.out];exact av.none _ _ _ (New.refl _)
set_option maxRecDepth 100000 in
set_option maxHeartbeats 1000000 in
theorem tN (ps:List Int) (ao:Option Addr) (c:Nat) (w:World) (hx:am w ao (Is ps)) (h3:3<=ps.length) (hl:ps.length<=9223372036854775807):
  Calls Tryz.prog 125 #[.int .u8 4,.slice ao ps.length c] w (av w (aj 4 ps)):=by
 obtain⟨b,off,rfl,hc⟩:=aT hx (i:=0) (by omega);obtain⟨b',off',e,hd⟩:=aT hx (i:=1) (by omega);simp only[Option.some.injEq,Addr.mk.injEq,and_true] at e;obtain⟨rfl,rfl⟩:=e;simp only[Nat.add_zero] at hc;generalize ps[0]=n at hc;generalize ps[1]=m at hd;have e1:((ps.length:Int)==1)=false:=beq_eq_false_iff_ne.2 (by omega);have e2:((ps.length:Int)==2)=false:=beq_eq_false_iff_ne.2 (by omega);have e0:((ps.length:Int)==0)=false:=beq_eq_false_iff_ne.2 (by omega);have hone:∀k,dJ ps k=false:=fun k=>by match ps,h3 with|_::_::_::_,_=>rfl
 have htwo:br ps=false:=by match ps,h3 with|_::_::_::_,_=>rfl
 have n0:ps≠[]:=by rintro rfl;simp at h3
 have hr:aj 4 ps=(61,[],[]):=by simp[aj,aQ,hone,htwo,n0]
 have HR:=Lib.hid hr;clear hr hone htwo n0;go_enter Tryz.func125,Tryz.ntmps125;go_wp2_with (first|(go_at_call 142;refine(ag _ _ _).mono ?_;rintro e w' ⟨rfl,rfl⟩)|(go_at_call 144;refine(aH _ _ _ (by omega)).mono ?_;rintro e w' ⟨ao',c',rfl,hown',hnew'⟩)|(go_at_call 143;(with_reducible refine(aF _ _).mono ?_);rintro e w' ⟨ao',c',rfl,hown',hnew'⟩)|(go_at_call 143;(with_reducible refine(aG _ _ _).mono ?_);rintro e w' ⟨ao',c',rfl,hown',hnew'⟩));go_ret3
 rw[HR.out];exact av.none _ _ _ (New.refl _)
set_option maxRecDepth 100000 in
set_option maxHeartbeats 1000000 in
theorem tP (ps:List Int) (ao:Option Addr) (c:Nat) (w:World) (hx:am w ao (Is ps)) (h3:3<=ps.length) (hl:ps.length<=9223372036854775807):
  Calls Tryz.prog 125 #[.int .u8 5,.slice ao ps.length c] w (av w (aj 5 ps)):=by
 obtain⟨b,off,rfl,hc⟩:=aT hx (i:=0) (by omega);obtain⟨b',off',e,hd⟩:=aT hx (i:=1) (by omega);simp only[Option.some.injEq,Addr.mk.injEq,and_true] at e;obtain⟨rfl,rfl⟩:=e;simp only[Nat.add_zero] at hc;generalize ps[0]=n at hc;generalize ps[1]=m at hd;have e1:((ps.length:Int)==1)=false:=beq_eq_false_iff_ne.2 (by omega);have e2:((ps.length:Int)==2)=false:=beq_eq_false_iff_ne.2 (by omega);have e0:((ps.length:Int)==0)=false:=beq_eq_false_iff_ne.2 (by omega);have hone:∀k,dJ ps k=false:=fun k=>by match ps,h3 with|_::_::_::_,_=>rfl
 have htwo:br ps=false:=by match ps,h3 with|_::_::_::_,_=>rfl
 have n0:ps≠[]:=by rintro rfl;simp at h3
 have hr:aj 5 ps=(61,[],[]):=by simp[aj,aQ,hone,htwo,n0]
 have HR:=Lib.hid hr;clear hr hone htwo n0;go_enter Tryz.func125,Tryz.ntmps125;go_wp2_with (first|(go_at_call 142;refine(ag _ _ _).mono ?_;rintro e w' ⟨rfl,rfl⟩)|(go_at_call 144;refine(aH _ _ _ (by omega)).mono ?_;rintro e w' ⟨ao',c',rfl,hown',hnew'⟩)|(go_at_call 143;(with_reducible refine(aF _ _).mono ?_);rintro e w' ⟨ao',c',rfl,hown',hnew'⟩)|(go_at_call 143;(with_reducible refine(aG _ _ _).mono ?_);rintro e w' ⟨ao',c',rfl,hown',hnew'⟩));go_ret3
 rw[HR.out];exact av.none _ _ _ (New.refl _)
set_option maxRecDepth 100000 in
set_option maxHeartbeats 1000000 in
theorem tQ (ps:List Int) (ao:Option Addr) (c:Nat) (w:World) (hx:am w ao (Is ps)) (h3:3<=ps.length) (hl:ps.length<=9223372036854775807):
  Calls Tryz.prog 125 #[.int .u8 6,.slice ao ps.length c] w (av w (aj 6 ps)):=by
 obtain⟨b,off,rfl,hc⟩:=aT hx (i:=0) (by omega);obtain⟨b',off',e,hd⟩:=aT hx (i:=1) (by omega);simp only[Option.some.injEq,Addr.mk.injEq,and_true] at e;obtain⟨rfl,rfl⟩:=e;simp only[Nat.add_zero] at hc;generalize ps[0]=n at hc;generalize ps[1]=m at hd;have e1:((ps.length:Int)==1)=false:=beq_eq_false_iff_ne.2 (by omega);have e2:((ps.length:Int)==2)=false:=beq_eq_false_iff_ne.2 (by omega);have e0:((ps.length:Int)==0)=false:=beq_eq_false_iff_ne.2 (by omega);have hone:∀k,dJ ps k=false:=fun k=>by match ps,h3 with|_::_::_::_,_=>rfl
 have htwo:br ps=false:=by match ps,h3 with|_::_::_::_,_=>rfl
 have n0:ps≠[]:=by rintro rfl;simp at h3
 have hr:aj 6 ps=(61,[],[]):=by simp[aj,aQ,hone,htwo,n0]
 have HR:=Lib.hid hr;clear hr hone htwo n0;go_enter Tryz.func125,Tryz.ntmps125;go_wp2_with (first|(go_at_call 142;refine(ag _ _ _).mono ?_;rintro e w' ⟨rfl,rfl⟩)|(go_at_call 144;refine(aH _ _ _ (by omega)).mono ?_;rintro e w' ⟨ao',c',rfl,hown',hnew'⟩)|(go_at_call 143;(with_reducible refine(aF _ _).mono ?_);rintro e w' ⟨ao',c',rfl,hown',hnew'⟩)|(go_at_call 143;(with_reducible refine(aG _ _ _).mono ?_);rintro e w' ⟨ao',c',rfl,hown',hnew'⟩));go_ret3
 rw[HR.out];exact av.none _ _ _ (New.refl _)
set_option maxRecDepth 100000 in
set_option maxHeartbeats 1000000 in
theorem tR (ps:List Int) (ao:Option Addr) (c:Nat) (w:World) (hx:am w ao (Is ps)) (h3:3<=ps.length) (hl:ps.length<=9223372036854775807):
  Calls Tryz.prog 125 #[.int .u8 7,.slice ao ps.length c] w (av w (aj 7 ps)):=by
 obtain⟨b,off,rfl,hc⟩:=aT hx (i:=0) (by omega);obtain⟨b',off',e,hd⟩:=aT hx (i:=1) (by omega);simp only[Option.some.injEq,Addr.mk.injEq,and_true] at e;obtain⟨rfl,rfl⟩:=e;simp only[Nat.add_zero] at hc;generalize ps[0]=n at hc;generalize ps[1]=m at hd;have e1:((ps.length:Int)==1)=false:=beq_eq_false_iff_ne.2 (by omega);have e2:((ps.length:Int)==2)=false:=beq_eq_false_iff_ne.2 (by omega);have e0:((ps.length:Int)==0)=false:=beq_eq_false_iff_ne.2 (by omega);have hone:∀k,dJ ps k=false:=fun k=>by match ps,h3 with|_::_::_::_,_=>rfl
 have htwo:br ps=false:=by match ps,h3 with|_::_::_::_,_=>rfl
 have n0:ps≠[]:=by rintro rfl;simp at h3
 have hr:aj 7 ps=(61,[],[]):=by simp[aj,aQ,hone,htwo,n0]
 have HR:=Lib.hid hr;clear hr hone htwo n0;go_enter Tryz.func125,Tryz.ntmps125;go_wp2_with (first|(go_at_call 142;refine(ag _ _ _).mono ?_;rintro e w' ⟨rfl,rfl⟩)|(go_at_call 144;refine(aH _ _ _ (by omega)).mono ?_;rintro e w' ⟨ao',c',rfl,hown',hnew'⟩)|(go_at_call 143;(with_reducible refine(aF _ _).mono ?_);rintro e w' ⟨ao',c',rfl,hown',hnew'⟩)|(go_at_call 143;(with_reducible refine(aG _ _ _).mono ?_);rintro e w' ⟨ao',c',rfl,hown',hnew'⟩));go_ret3
 rw[HR.out];exact av.none _ _ _ (New.refl _)
set_option maxRecDepth 100000 in
set_option maxHeartbeats 1000000 in
theorem tS (ps:List Int) (ao:Option Addr) (c:Nat) (w:World) (hx:am w ao (Is ps)) (h3:3<=ps.length) (hl:ps.length<=9223372036854775807):
  Calls Tryz.prog 125 #[.int .u8 8,.slice ao ps.length c] w (av w (aj 8 ps)):=by
 obtain⟨b,off,rfl,hc⟩:=aT hx (i:=0) (by omega);obtain⟨b',off',e,hd⟩:=aT hx (i:=1) (by omega);simp only[Option.some.injEq,Addr.mk.injEq,and_true] at e;obtain⟨rfl,rfl⟩:=e;simp only[Nat.add_zero] at hc;generalize ps[0]=n at hc;generalize ps[1]=m at hd;have e1:((ps.length:Int)==1)=false:=beq_eq_false_iff_ne.2 (by omega);have e2:((ps.length:Int)==2)=false:=beq_eq_false_iff_ne.2 (by omega);have e0:((ps.length:Int)==0)=false:=beq_eq_false_iff_ne.2 (by omega);have hone:∀k,dJ ps k=false:=fun k=>by match ps,h3 with|_::_::_::_,_=>rfl
 have htwo:br ps=false:=by match ps,h3 with|_::_::_::_,_=>rfl
 have n0:ps≠[]:=by rintro rfl;simp at h3
 have hr:aj 8 ps=(61,[],[]):=by simp[aj,aQ,hone,htwo,n0]
 have HR:=Lib.hid hr;clear hr hone htwo n0;go_enter Tryz.func125,Tryz.ntmps125;go_wp2_with (first|(go_at_call 142;refine(ag _ _ _).mono ?_;rintro e w' ⟨rfl,rfl⟩)|(go_at_call 144;refine(aH _ _ _ (by omega)).mono ?_;rintro e w' ⟨ao',c',rfl,hown',hnew'⟩)|(go_at_call 143;(with_reducible refine(aF _ _).mono ?_);rintro e w' ⟨ao',c',rfl,hown',hnew'⟩)|(go_at_call 143;(with_reducible refine(aG _ _ _).mono ?_);rintro e w' ⟨ao',c',rfl,hown',hnew'⟩));go_ret3
 rw[HR.out];exact av.none _ _ _ (New.refl _)
set_option maxRecDepth 100000 in
set_option maxHeartbeats 1000000 in
theorem tT (ps:List Int) (ao:Option Addr) (c:Nat) (w:World) (hx:am w ao (Is ps)) (h3:3<=ps.length) (hl:ps.length<=9223372036854775807):
  Calls Tryz.prog 125 #[.int .u8 9,.slice ao ps.length c] w (av w (aj 9 ps)):=by
 obtain⟨b,off,rfl,hc⟩:=aT hx (i:=0) (by omega);obtain⟨b',off',e,hd⟩:=aT hx (i:=1) (by omega);simp only[Option.some.injEq,Addr.mk.injEq,and_true] at e;obtain⟨rfl,rfl⟩:=e;simp only[Nat.add_zero] at hc;generalize ps[0]=n at hc;generalize ps[1]=m at hd;have e1:((ps.length:Int)==1)=false:=beq_eq_false_iff_ne.2 (by omega);have e2:((ps.length:Int)==2)=false:=beq_eq_false_iff_ne.2 (by omega);have e0:((ps.length:Int)==0)=false:=beq_eq_false_iff_ne.2 (by omega);have hone:∀k,dJ ps k=false:=fun k=>by match ps,h3 with|_::_::_::_,_=>rfl
 have htwo:br ps=false:=by match ps,h3 with|_::_::_::_,_=>rfl
 have n0:ps≠[]:=by rintro rfl;simp at h3
 have hr:aj 9 ps=(61,[],[]):=by simp[aj,aQ,hone,htwo,n0]
 have HR:=Lib.hid hr;clear hr hone htwo n0;go_enter Tryz.func125,Tryz.ntmps125;go_wp2_with (first|(go_at_call 142;refine(ag _ _ _).mono ?_;rintro e w' ⟨rfl,rfl⟩)|(go_at_call 144;refine(aH _ _ _ (by omega)).mono ?_;rintro e w' ⟨ao',c',rfl,hown',hnew'⟩)|(go_at_call 143;(with_reducible refine(aF _ _).mono ?_);rintro e w' ⟨ao',c',rfl,hown',hnew'⟩)|(go_at_call 143;(with_reducible refine(aG _ _ _).mono ?_);rintro e w' ⟨ao',c',rfl,hown',hnew'⟩));go_ret3
 rw[HR.out];exact av.none _ _ _ (New.refl _)
set_option maxRecDepth 100000 in
set_option maxHeartbeats 1000000 in
theorem rz (ps:List Int) (ao:Option Addr) (c:Nat) (w:World) (hx:am w ao (Is ps)) (h3:3<=ps.length) (hl:ps.length<=9223372036854775807):
  Calls Tryz.prog 125 #[.int .u8 10,.slice ao ps.length c] w (av w (aj 10 ps)):=by
 obtain⟨b,off,rfl,hc⟩:=aT hx (i:=0) (by omega);obtain⟨b',off',e,hd⟩:=aT hx (i:=1) (by omega);simp only[Option.some.injEq,Addr.mk.injEq,and_true] at e;obtain⟨rfl,rfl⟩:=e;simp only[Nat.add_zero] at hc;generalize ps[0]=n at hc;generalize ps[1]=m at hd;have e1:((ps.length:Int)==1)=false:=beq_eq_false_iff_ne.2 (by omega);have e2:((ps.length:Int)==2)=false:=beq_eq_false_iff_ne.2 (by omega);have e0:((ps.length:Int)==0)=false:=beq_eq_false_iff_ne.2 (by omega);have hone:∀k,dJ ps k=false:=fun k=>by match ps,h3 with|_::_::_::_,_=>rfl
 have htwo:br ps=false:=by match ps,h3 with|_::_::_::_,_=>rfl
 have n0:ps≠[]:=by rintro rfl;simp at h3
 have hr:aj 10 ps=(61,[],[]):=by simp[aj,aQ,hone,htwo,n0];try omega
 have HR:=Lib.hid hr;clear hr hone htwo n0;go_enter Tryz.func125,Tryz.ntmps125;go_wp2_with (first|(go_at_call 142;refine(ag _ _ _).mono ?_;rintro e w' ⟨rfl,rfl⟩)|(go_at_call 144;refine(aH _ _ _ (by omega)).mono ?_;rintro e w' ⟨ao',c',rfl,hown',hnew'⟩)|(go_at_call 143;(with_reducible refine(aF _ _).mono ?_);rintro e w' ⟨ao',c',rfl,hown',hnew'⟩)|(go_at_call 143;(with_reducible refine(aG _ _ _).mono ?_);rintro e w' ⟨ao',c',rfl,hown',hnew'⟩));go_ret3
 rw[HR.out];exact av.none _ _ _ (New.refl _)
set_option maxRecDepth 100000 in
set_option maxHeartbeats 1000000 in
theorem rA (ps:List Int) (ao:Option Addr) (c:Nat) (w:World) (hx:am w ao (Is ps)) (h3:3<=ps.length) (hl:ps.length<=9223372036854775807):
  Calls Tryz.prog 125 #[.int .u8 11,.slice ao ps.length c] w (av w (aj 11 ps)):=by
 obtain⟨b,off,rfl,hc⟩:=aT hx (i:=0) (by omega);obtain⟨b',off',e,hd⟩:=aT hx (i:=1) (by omega);simp only[Option.some.injEq,Addr.mk.injEq,and_true] at e;obtain⟨rfl,rfl⟩:=e;simp only[Nat.add_zero] at hc;generalize ps[0]=n at hc;generalize ps[1]=m at hd;have e1:((ps.length:Int)==1)=false:=beq_eq_false_iff_ne.2 (by omega);have e2:((ps.length:Int)==2)=false:=beq_eq_false_iff_ne.2 (by omega);have e0:((ps.length:Int)==0)=false:=beq_eq_false_iff_ne.2 (by omega);have hone:∀k,dJ ps k=false:=fun k=>by match ps,h3 with|_::_::_::_,_=>rfl
 have htwo:br ps=false:=by match ps,h3 with|_::_::_::_,_=>rfl
 have n0:ps≠[]:=by rintro rfl;simp at h3
 have hr:aj 11 ps=(61,[],[]):=by simp[aj,aQ,hone,htwo,n0]
 have HR:=Lib.hid hr;clear hr hone htwo n0;go_enter Tryz.func125,Tryz.ntmps125;go_wp2_with (first|(go_at_call 142;refine(ag _ _ _).mono ?_;rintro e w' ⟨rfl,rfl⟩)|(go_at_call 144;refine(aH _ _ _ (by omega)).mono ?_;rintro e w' ⟨ao',c',rfl,hown',hnew'⟩)|(go_at_call 143;(with_reducible refine(aF _ _).mono ?_);rintro e w' ⟨ao',c',rfl,hown',hnew'⟩)|(go_at_call 143;(with_reducible refine(aG _ _ _).mono ?_);rintro e w' ⟨ao',c',rfl,hown',hnew'⟩));go_ret3
 rw[HR.out];exact av.none _ _ _ (New.refl _)
end Go.Proofs.YtnedmonlofbahaaGreatDoor
namespace Go.Proofs.YtnedmonlofbahaaGreatDoor
open Go Go.RowKit
set_option linter.all false
theorem cL {ps:List Int} {k:Int} (h:dJ ps k=true):∃n,ps=[n]∧1<=n∧n<=k:=by
 unfold dJ at h;split at h
 ·rename_i n;exact⟨n,rfl,by simpa using h⟩
 ·cases h
theorem fG {ps:List Int} (h:br ps=true):∃n m,ps=[n,m]∧1<=n∧n<=16∧1<=m∧m<=64∧n*m<=64:=by
 unfold br at h;split at h
 ·rename_i n m;exact⟨n,m,rfl,by simpa using h⟩
 ·cases h
theorem fE {tag:Int} (h1:1<=tag) (h2:tag<=11):tag=1∨tag=2∨tag=3∨tag=4∨tag=5∨tag=6∨tag=7∨tag=8∨tag=9∨tag=10∨tag=11:=by omega
set_option maxRecDepth 100000 in
set_option maxHeartbeats 1000000 in
theorem lW (tag:Int) (ao:Option Addr) (c:Nat) (ps:List Int) (w:World) (hx:am w ao (Is ps)) (hl:ps.length<=9223372036854775807):
  Calls Tryz.prog 134 #[.int .u8 tag,.slice ao ps.length c] w (av w (aj tag ps)):=by
 by_cases ht:1<=tag∧tag<=11
 ·obtain⟨t1,t2⟩:=ht;by_cases hg:aQ tag ps=true
  ·have htag:=fE t1 t2;have hs:aj tag ps=(0,dg tag ps):=by unfold aj;rw[if_pos ⟨t1,t2⟩,if_pos hg]
   rw[hs];clear hs t1 t2;rcases htag with rfl|rfl|rfl|rfl|rfl|rfl|rfl|rfl|rfl|rfl|rfl
   ·have h:1<=ps.length∧ps.length<=16:=by simpa[aQ] using hg
    exact uC 1 ao c ps w rfl hx h.1 h.2
   ·obtain⟨n,rfl,h1,h2⟩:=cL (ps:=ps) (k:=64) (by simpa[aQ] using hg);exact uD 2 ao c n w rfl hx h1 h2
   ·obtain⟨n,rfl,h1,h2⟩:=cL (ps:=ps) (k:=64) (by simpa[aQ] using hg);exact uE 3 ao c n w rfl hx h1 h2
   ·obtain⟨n,m,rfl,h1,h2,h3,h4,h5⟩:=fG (ps:=ps) (by simpa[aQ] using hg);exact uF 4 ao c n m w rfl hx h1 h2 h3 h4 (bA n m h1 h2 h3 h4).1 h5
   ·obtain⟨n,m,rfl,h1,h2,h3,h4,h5⟩:=fG (ps:=ps) (by simpa[aQ] using hg);exact uG 5 ao c n m w rfl hx h1 h2 h3 h4 (bA n m h1 h2 h3 h4).1 h5
   ·obtain⟨n,rfl,h1,h2⟩:=cL (ps:=ps) (k:=16) (by simpa[aQ] using hg);exact uH 6 ao c n w rfl hx h1 h2
   ·obtain rfl:ps=[]:=List.eq_nil_of_length_eq_zero (by simpa[aQ] using hg);exact uI 7 ao c w rfl hx
   ·obtain rfl:ps=[]:=List.eq_nil_of_length_eq_zero (by simpa[aQ] using hg);exact uJ 8 ao c w rfl hx
   ·obtain⟨n,rfl,h1,h2⟩:=cL (ps:=ps) (k:=16) (by simpa[aQ] using hg);exact uK 9 ao c n w rfl hx h1 h2
   ·have h:ps.length=2:=by simpa[aQ] using hg
    exact sU 10 ao c ps w rfl hx (by omega) (by omega)
   ·obtain⟨n,rfl,h1,h2⟩:=cL (ps:=ps) (k:=64) (by simpa[aQ] using hg);exact sV 11 ao c n w rfl hx h1 h2
  ·have hs:aj tag ps=(61,[],[]):=by unfold aj;rw[if_pos ⟨t1,t2⟩,if_neg hg]
   have HS:=Lib.hid hs;have hg':aQ tag ps=false:=by simpa using hg
   have HG:=Lib.hid hg';clear hs hg hg';go_enter Tryz.func134,Tryz.ntmps134;go_wp2_with (go_at_call 152;refine(dl _ _ _ ps _ t1 t2 hx hl).mono ?_;rw[HG.out];rintro e w' ⟨rfl,nq,rfl⟩);go_ret3
   rw[HS.out];exact av.none _ _ _ (Keeps.drewN w _)
 ·have hs:aj tag ps=(60,[],[]):=by unfold aj;rw[if_neg ht]
  have HS:=Lib.hid hs;clear hs;by_cases h1:tag<1
  ·clear ht;go_enter Tryz.func134,Tryz.ntmps134;go_wp2_with fail;go_ret3
   rw[HS.out];exact av.none _ _ _ (New.refl _)
  ·have h2:11<tag:=by omega
   clear ht;go_enter Tryz.func134,Tryz.ntmps134;go_wp2_with fail;go_ret3
   rw[HS.out];exact av.none _ _ _ (New.refl _)
set_option maxRecDepth 100000 in
set_option maxHeartbeats 1000000 in
theorem tU (tag:Int) (ao:Option Addr) (c:Nat) (ps:List Int) (w:World) (hx:am w ao (Is ps)) (hl:ps.length<=9223372036854775807):
  Calls Tryz.prog 125 #[.int .u8 tag,.slice ao ps.length c] w (av w (aj tag ps)):=by
 by_cases ht:1<=tag∧tag<=11
 ·obtain⟨t1,t2⟩:=ht;have htag:=fE t1 t2;clear t1 t2
  match ps,hx,hl with
  |[],hx,hl=>
   rcases htag with rfl|rfl|rfl|rfl|rfl|rfl|rfl|rfl|rfl|rfl|rfl
   ·exact s8 ao c w hx
   ·exact s9 ao c w hx
   ·exact tb ao c w hx
   ·exact tc ao c w hx
   ·exact td ao c w hx
   ·exact te ao c w hx
   ·exact tf ao c w hx
   ·exact th ao c w hx
   ·exact ti ao c w hx
   ·exact rr ao c w hx
   ·exact rs ao c w hx
  |[n],hx,hl=>
   rcases htag with rfl|rfl|rfl|rfl|rfl|rfl|rfl|rfl|rfl|rfl|rfl
   ·exact tj n ao c w hx
   ·exact tl n ao c w hx
   ·exact tm n ao c w hx
   ·exact tq n ao c w hx
   ·exact tt n ao c w hx
   ·exact tv n ao c w hx
   ·exact tw n ao c w hx
   ·exact tz n ao c w hx
   ·exact tA n ao c w hx
   ·exact ru n ao c w hx
   ·exact rv n ao c w hx
  |[n,m],hx,hl=>
   rcases htag with rfl|rfl|rfl|rfl|rfl|rfl|rfl|rfl|rfl|rfl|rfl
   ·exact tB n m ao c w hx
   ·exact tC n m ao c w hx
   ·exact tD n m ao c w hx
   ·exact tE n m ao c w hx
   ·exact tF n m ao c w hx
   ·exact tG n m ao c w hx
   ·exact tH n m ao c w hx
   ·exact tI n m ao c w hx
   ·exact tJ n m ao c w hx
   ·exact rx n m ao c w hx
   ·exact ry n m ao c w hx
  |n::m::q::r,hx,hl=>
   have h3:3<=(n::m::q::r).length:=by simp
   rcases htag with rfl|rfl|rfl|rfl|rfl|rfl|rfl|rfl|rfl|rfl|rfl
   ·exact tK _ ao c w hx h3 hl
   ·exact tL _ ao c w hx h3 hl
   ·exact tM _ ao c w hx h3 hl
   ·exact tN _ ao c w hx h3 hl
   ·exact tP _ ao c w hx h3 hl
   ·exact tQ _ ao c w hx h3 hl
   ·exact tR _ ao c w hx h3 hl
   ·exact tS _ ao c w hx h3 hl
   ·exact tT _ ao c w hx h3 hl
   ·exact rz _ ao c w hx h3 hl
   ·exact rA _ ao c w hx h3 hl
 ·have hs:aj tag ps=(60,[],[]):=by unfold aj;rw[if_neg ht]
  have HS:=Lib.hid hs;clear hs;by_cases h1:tag<1
  ·clear ht;go_enter Tryz.func125,Tryz.ntmps125;go_wp2_with fail;go_ret3
   rw[HS.out];exact av.none _ _ _ (New.refl _)
  ·have h2:11<tag:=by omega
   clear ht;go_enter Tryz.func125,Tryz.ntmps125;go_wp2_with fail;go_ret3
   rw[HS.out];exact av.none _ _ _ (New.refl _)
end Go.Proofs.YtnedmonlofbahaaGreatDoor
namespace Go.Proofs.YtnedmonlofbahaaGreatDoor
open Go Go.RowKit
set_option linter.all false
def ws:List ByteArray:=[⟨#[102,105,108,116,101,114]⟩,⟨#[117,112]⟩,⟨#[100,111,119,110]⟩,⟨#[119,101,97,118,101]⟩,⟨#[117,110,119,101,97,118,101]⟩,⟨#[97,100,100]⟩,⟨#[113,117,111,116]⟩,⟨#[115,117,109]⟩,⟨#[99,111,112,121]⟩,⟨#[116,105,99,107]⟩,⟨#[100,114,111,112]⟩]
def wsV:Array Value:=#[.string ⟨#[102,105,108,116,101,114]⟩,.string ⟨#[117,112]⟩,.string ⟨#[100,111,119,110]⟩,.string ⟨#[119,101,97,118,101]⟩,.string ⟨#[117,110,119,101,97,118,101]⟩,.string ⟨#[97,100,100]⟩,.string ⟨#[113,117,111,116]⟩,.string ⟨#[115,117,109]⟩,.string ⟨#[99,111,112,121]⟩,.string ⟨#[116,105,99,107]⟩,.string ⟨#[100,114,111,112]⟩]
theorem vA:ws.length=11:=rfl
theorem pv (k:Nat) (h:k<11):wsV[k]? =some (.string (ws.getD k ByteArray.empty)):=by
 have hk:k=0∨k=1∨k=2∨k=3∨k=4∨k=5∨k=6∨k=7∨k=8∨k=9∨k=10:=by omega
 rcases hk with rfl|rfl|rfl|rfl|rfl|rfl|rfl|rfl|rfl|rfl|rfl<;>rfl
def ub (s:ByteArray):Int×Int:=match ws.findIdx? (fun u=>u.toList==s.toList) with
 |some k=>((k:Int)+1,0)
 |none=>(0,60)
def ft (t:Int):ByteArray×Int:=if 1<=t∧t<=11 then(ws.getD (t-1).toNat ByteArray.empty,0) else(ByteArray.empty,60)
theorem mX {p:ByteArray->Bool} {l:List ByteArray} {k:Nat} (hk:k<l.length) (hno:∀j,j<k->p (l.getD j ByteArray.empty)=false) (hp:p (l.getD k ByteArray.empty)=true):l.findIdx? p=some k:=by
 rw[List.findIdx?_eq_some_iff_getElem];refine⟨hk,by simpa[hk] using hp,fun j hj=>?_⟩;have:=hno j hj;simpa[show j<l.length by omega] using this
theorem mj {p:ByteArray->Bool} {l:List ByteArray} (hno:∀j,j<l.length->p (l.getD j ByteArray.empty)=false):l.findIdx? p=none:=by
 rw[List.findIdx?_eq_none_iff];intro x hx;obtain⟨j,hj,rfl⟩:=List.getElem_of_mem hx;have:=hno j hj;simpa[hj] using this
theorem mu (w:World):Calls Tryz.prog 118 #[] w fun e w'=>e= .returned (.slice (some ⟨w.heap.size,0,none⟩) 11 11)∧w.alloc (.cells wsV 9)=w':=by
 go_enter Tryz.func118,Tryz.ntmps118;go_wp2
 go_ret
 exact⟨rfl,rfl⟩
theorem jX (w:World):Calls Tryz.prog 95 #[] w fun e w'=>e= .returned (.slice (some ⟨w.heap.size,0,none⟩) 11 11)∧w.alloc (.cells wsV 9)=w':=by
 go_enter Tryz.func95,Tryz.ntmps95;go_wp2
 go_ret
 exact⟨rfl,rfl⟩
def v8 (w:World) (r:Int×Int) (e:Ending) (w':World):Prop:=e= .returned (.tuple #[.int .u8 r.1,I r.2])∧New w w'
set_option maxHeartbeats 1000000 in
theorem rB (s:ByteArray) (w:World):Calls Tryz.prog 53 #[.string s] w (v8 w (ub s)):=by
 have hcell:∀k,k<11->(w.alloc (.cells wsV 9)).cell? ⟨w.heap.size,k,none⟩=some (.string (ws.getD k ByteArray.empty)):=fun k hk=>by
  rw[World.cell?_alloc_new];exact pv k hk
 have HC:=Lib.hid hcell;clear hcell;go_enter Tryz.func53,Tryz.ntmps53;go_wp2_with (go_at_call 95;(with_reducible refine(jX _).mono ?_);rintro e w' ⟨rfl,rfl⟩);go_loopw [8] (fun i wr=>∃k:Nat,k<=11∧i= .int .i64 k∧(∀j,j<k->((ws.getD j ByteArray.empty).toList==s.toList)=false)∧wr=w.alloc (.cells wsV 9)) (fun i _=>11-(intOf i).toNat)
 case atStart=>exact⟨0,by omega,rfl,by omega,rfl⟩
 case round=>
  obtain⟨k,hk,rfl,hall,rfl⟩:=hrel;have HA:=Lib.hid hall;clear hall;by_cases hk1:k<11
  ·have hc:=HC.out k hk1;obtain⟨u,hu⟩:∃u,u=ws.getD k ByteArray.empty:=⟨_,rfl⟩
   rw[<-hu] at hc;have HU:=Lib.hid hu;clear hu;go_wp2
   ·have hyes:(u.toList==s.toList)=true:=by assumption
    go_ret2
    have:=mX (p:=fun u=>u.toList==s.toList) (l:=ws) (k:=k) (by rw[vA];omega) HA.out (by rw[<-HU.out];exact hyes);exact⟨by unfold ub;rw[this];simp[Int.add_comm],Keeps.alloc _ _⟩
   ·have hno:(u.toList==s.toList)=false:=by assumption
    go_roundw
    case rel=>
     refine⟨k+1,by omega,by go_num,fun j hj=>?_,(by first|rfl|trivial)⟩;by_cases e:j<k
     ·exact HA.out j e
     ·obtain rfl:j=k:=by omega
      rw[<-HU.out];exact hno
    case measure=>simp[intOf];omega
  ·obtain rfl:k=11:=by omega
   go_wp2
   go_ret2
   have:=mj (p:=fun u=>u.toList==s.toList) (l:=ws) HA.out;exact⟨by unfold ub;rw[this];rfl,Keeps.alloc _ _⟩
def jb (w:World) (r:ByteArray×Int) (e:Ending) (w':World):Prop:=e= .returned (.tuple #[.string r.1,I r.2])∧New w w'
set_option maxRecDepth 100000 in
set_option maxHeartbeats 1000000 in
theorem nK (t:Int) (h0:0<=t) (h255:t<=255) (w:World):Calls Tryz.prog 78 #[.int .u8 t] w (jb w (ft t)):=by
 have hcell:∀k,k<11->(w.alloc (.cells wsV 9)).cell? ⟨w.heap.size,k,none⟩=some (.string (ws.getD k ByteArray.empty)):=fun k hk=>by
  rw[World.cell?_alloc_new];exact pv k hk
 have HC:=Lib.hid hcell;clear hcell;by_cases h1:1<=t∧t<=11
 ·obtain⟨h1,h2⟩:=h1;have hc:=HC.out (t-1).toNat (by omega);have hr:ft t=(ws.getD (t-1).toNat ByteArray.empty,0):=by unfold ft;rw[if_pos ⟨h1,h2⟩]
  have HR:=Lib.hid hr;clear hr;generalize ws.getD (t-1).toNat ByteArray.empty=u at hc HR;obtain⟨k,hk⟩:∃k:Nat,t=(k:Int)+1:=⟨(t-1).toNat,by omega⟩
  subst hk;have e:((k:Int)+1-1).toNat=k:=by omega
  rw[e] at hc;clear e;go_enter Tryz.func78,Tryz.ntmps78;go_wp2_with (go_at_call 118;(with_reducible refine(mu _).mono ?_);rintro e w' ⟨rfl,rfl⟩);go_ret2
  rw[HR.out];exact⟨rfl,Keeps.alloc _ _⟩
 ·have hr:ft t=(ByteArray.empty,60):=by unfold ft;rw[if_neg h1]
  have HR:=Lib.hid hr;clear hr;by_cases h3:t<1
  ·go_enter Tryz.func78,Tryz.ntmps78;go_wp2_with fail;go_ret2
   rw[HR.out];exact⟨rfl,New.refl _⟩
  ·have h4:11<t:=by omega
   go_enter Tryz.func78,Tryz.ntmps78;go_wp2_with fail;go_ret2
   rw[HR.out];exact⟨rfl,New.refl _⟩
def jx (w:World) (r:ByteArray×Int) (e:Ending) (w':World):Prop:=e= .returned (.tuple #[.string r.1,I r.2])∧New w w'
set_option maxRecDepth 100000 in
set_option maxHeartbeats 1000000 in
theorem pc (t:Int) (h0:0<=t) (h255:t<=255) (w:World):Calls Tryz.prog 70 #[.int .u8 t] w (jx w (ft t)):=by
 have hcell:∀k,k<11->(w.alloc (.cells wsV 9)).cell? ⟨w.heap.size,k,none⟩=some (.string (ws.getD k ByteArray.empty)):=fun k hk=>by
  rw[World.cell?_alloc_new];exact pv k hk
 have HC:=Lib.hid hcell;clear hcell;by_cases h1:1<=t∧t<=11
 ·obtain⟨h1,h2⟩:=h1;have hc:=HC.out (t-1).toNat (by omega);have hr:ft t=(ws.getD (t-1).toNat ByteArray.empty,0):=by unfold ft;rw[if_pos ⟨h1,h2⟩]
  have HR:=Lib.hid hr;clear hr;generalize ws.getD (t-1).toNat ByteArray.empty=u at hc HR;obtain⟨k,hk⟩:∃k:Nat,t=(k:Int)+1:=⟨(t-1).toNat,by omega⟩
  subst hk;have e:((k:Int)+1-1).toNat=k:=by omega
  rw[e] at hc;clear e;go_enter Tryz.func70,Tryz.ntmps70;go_wp2_with (go_at_call 95;(with_reducible refine(jX _).mono ?_);rintro e w' ⟨rfl,rfl⟩);go_ret2
  rw[HR.out];exact⟨rfl,Keeps.alloc _ _⟩
 ·have hr:ft t=(ByteArray.empty,60):=by unfold ft;rw[if_neg h1]
  have HR:=Lib.hid hr;clear hr;by_cases h3:t<1
  ·go_enter Tryz.func70,Tryz.ntmps70;go_wp2_with fail;go_ret2
   rw[HR.out];exact⟨rfl,New.refl _⟩
  ·have h4:11<t:=by omega
   go_enter Tryz.func70,Tryz.ntmps70;go_wp2_with fail;go_ret2
   rw[HR.out];exact⟨rfl,New.refl _⟩
end Go.Proofs.YtnedmonlofbahaaGreatDoor
