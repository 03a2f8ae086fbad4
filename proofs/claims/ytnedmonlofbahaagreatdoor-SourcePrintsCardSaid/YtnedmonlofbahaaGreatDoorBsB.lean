/-
  Read: what is wanted of them.
-/
import Derived.Test.YtnedmonlofbahaaGreatDoorBsA
import Derived.Test.YtnedmonlofbahaaGreatDoorRows
import Derived.ProofKit
import Derived.OpenShut
import Derived.ShutString
import Derived.ChangeOld
import Derived.Below
import Derived.SizedLaws
namespace Go.Proofs.YtnedmonlofbahaaGreatDoor
open Go Go.RowKit Go.ChangeShapes Go.WideShapes Go.ChangeAt
set_option linter.all false
open Go.ChangeMaps (open_string shut_string)
theorem own:ownKnob Tryz.prog.godebug=none:=by kernel_rfl
theorem uu:laidOutB Tryz.prog=true:=by kernel_rfl
theorem sJ {H:Type} (k:IntKind) (zs:List Int):(lits (H:=H) k zs).length=zs.length:=by simp[lits]
theorem rj {H:Type} {enc:TypeId×Value->H} {W:World} {a:Option Addr} {n c:Nat} {d:DataW H} {ps:List MemPlace}
  (h:DataW.Trod enc Tryz.prog W 0 (fun _=>true) true 61 (.slice a n c) d ps):
  ∃xs:List Int,n=xs.length∧am W a (xs.map (Value.int .i64))∧(∀x∈xs,(Lit.int .i64 x).wf=true)∧n<=maxLen∧n<=c∧
   (d= .nil∧xs=[]∨∃spare,d= .slice (lits .i64 xs) spare):=by
 obtain⟨fuel,hf⟩:=h;rcases open_ints Tryz.underlying61 Tryz.underlying3 (by kernel_rfl) hf with⟨hcs,hx⟩|⟨x,l,c',zs,hcs,_,hl,hm,hz,hx,hcell,hwz⟩
 ·simp[Value.cells] at hcs;obtain⟨rfl,rfl,rfl⟩:=hcs;simp only[Prod.mk.injEq] at hx;exact⟨[],rfl,am.nil _ _,(by simp),(by simp),Nat.le_refl _,.inl ⟨hx.1,rfl⟩⟩
 ·simp[Value.cells] at hcs;obtain⟨rfl,rfl,rfl⟩:=hcs;simp only[if_true] at hz;simp only[Prod.mk.injEq] at hx;have hlen:n=(zs.take n).length:=by simp;omega
  refine⟨zs.take n,hlen,?_,fun y hy=>hwz y (List.mem_of_mem_take hy),by omega,hl,.inr ⟨_,hx.1⟩⟩;intro i hi;simp at hi;have h0:=hcell i (by omega);obtain⟨b,off,spot⟩:=x;have hspot:spot=none:=by simpa[Addr.add] using World.cell?_spot (hcell 0 (by omega))
  subst hspot;refine⟨b,off,rfl,?_⟩;rw[Addr.add_lit] at h0;rw[h0];simp[show i<n by omega,show i<zs.length by omega]
theorem wf_i64 {x:Int} (h:(Lit.int .i64 x).wf=true): -9223372036854775808<=x∧x<=9223372036854775807:=by
 simpa[Lit.wf,IntKind.min,IntKind.max,IntKind.signed,IntKind.bits] using h
theorem v6 {x:Int} (h:(Lit.int .u8 x).wf=true):0<=x∧x<=255:=by
 simpa[Lit.wf,IntKind.min,IntKind.max,IntKind.signed,IntKind.bits] using h
end Go.Proofs.YtnedmonlofbahaaGreatDoor
