/-
  Layer 9: what the rows list of the library's variables: what a walk needs of it; a world that holds it.
-/
import Derived.Test.YtnedmonlofbahaaGreatDoorCards
import Derived.Test.YtnedmonlofbahaaGreatDoorTie
import Derived.WalkKit
import Derived.ProofKit
import Derived.OpenShut
import Derived.Deep.DeepHandedRow
import Derived.Lib.LaidTab
import Derived.Stop.LaidErr
import Derived.LaidHandle
import Derived.SizedLaws
import Derived.Test.YtnedmonlofbahaaGreatDoorBs
import Derived.Test.YtnedmonlofbahaaGreatDoorLxB
import Derived.Test.YtnedmonlofbahaaGreatDoorSwD
import Derived.Test.YtnedmonlofbahaaGreatDoorGwG
import Derived.Test.YtnedmonlofbahaaGreatDoorAwB
import Derived.Test.YtnedmonlofbahaaGreatDoorBw
import Derived.Test.YtnedmonlofbahaaGreatDoorDwD
import Derived.Test.YtnedmonlofbahaaGreatDoorSx
import Derived.Test.YtnedmonlofbahaaGreatDoorTw
namespace Go.Proofs.YtnedmonlofbahaaGreatDoor
open Go Go.RowKit Go.Joins Go.ChangeShapes Go.WideShapes Go.ChangeAt
set_option linter.all false
theorem gTab:Tryz.prog.globalNamed "internal/strconv.uint64pow10" =some 1:=by kernel_rfl
theorem gTabType:(Tryz.prog.globals[1]?).map (·.type)=some 248:=by kernel_rfl
theorem cellsTab:Tryz.prog.cellsOf 248=20:=by kernel_rfl
theorem cellsOne:Tryz.prog.cellsOf 234=1:=by kernel_rfl
theorem laidData:(Rows.laid_internal_strconv_uint64pow10:DataW Unit)=Lib.tabData .u64 Lib.pow10Tab:=by kernel_rfl
theorem gRng:Tryz.prog.globalNamed "strconv.ErrRange" =some 3:=by kernel_rfl
theorem gRngType:(Tryz.prog.globals[3]?).map (·.type)=some 28:=by kernel_rfl
theorem starErr: "*" ++ "errors.errorString" = "*errors.errorString" :=by decide
theorem rowErr (u:TypeId) (h:Tryz.prog.typeName? 3 u=some "*errors.errorString"):u=259:=
 typeName_ptr_named (nm:= "errors.errorString") (by rw[starErr];kernel_rfl) (by kernel_rfl) (by decide) u (by rw[starErr];exact h)
abbrev laid5:List (String×DataW Unit):=[("math/bits.deBruijn32tab",Rows.laid_math_bits_deBruijn32tab),("math/bits.deBruijn64tab",Rows.laid_math_bits_deBruijn64tab),("internal/strconv.uint64pow10",Rows.laid_internal_strconv_uint64pow10),("strconv.ErrRange",Rows.laid_strconv_ErrRange),("strconv.ErrSyntax",Rows.laid_strconv_ErrSyntax)]
abbrev laidL:List (String×DataW Unit):=[("math/bits.deBruijn32tab",Rows.laid_math_bits_deBruijn32tab),("math/bits.deBruijn64tab",Rows.laid_math_bits_deBruijn64tab),("internal/strconv.uint64pow10",Rows.laid_internal_strconv_uint64pow10),("errors.errorType",Rows.laid_errors_errorType),("strconv.ErrRange",Rows.laid_strconv_ErrRange),("strconv.ErrSyntax",Rows.laid_strconv_ErrSyntax)]
theorem env_of5 {W:World} (h:laidMet Tryz.prog laid5 W):Env W:=by
 have h2:=h.tail.tail;have h3:=h2.tail;rw[laidData] at h2;refine⟨Lib.tabIs_of_head (rest:=[("strconv.ErrRange",Rows.laid_strconv_ErrRange),("strconv.ErrSyntax",Rows.laid_strconv_ErrSyntax)]) gTab gTabType Tryz.underlying248 Tryz.underlying234 cellsOne cellsTab h2,?_⟩;obtain⟨a,s,hv,_⟩:=laid_sentinel (tp:=259) h3 gRng gRngType Tryz.underlying28 rowErr Tryz.underlying259 Tryz.underlying261 rfl rfl Tryz.underlying9 (by kernel_rfl) (by kernel_rfl);exact⟨_,_,hv⟩
theorem gEt:Tryz.prog.globalNamed "errors.errorType" =some 0:=by kernel_rfl
theorem gRt:(Tryz.prog.cutTypes.find? (·.1== "internal/reflectlite.rtype")).map (·.2)=some 167:=by kernel_rfl
theorem gOne:((List.range 290).filter fun t=>Tryz.prog.rowNamed t [101,114,114,111,114])=[28]:=by kernel_rfl
theorem gSize:Tryz.prog.types.size=290:=by kernel_rfl
theorem fSome:(laidL.filter fun x=>x.2.handleName?.isSome)=[("errors.errorType",Rows.laid_errors_errorType)]:=by kernel_rfl
theorem fNone:(laidL.filter fun x=>x.2.handleName?.isNone)=laid5:=by kernel_rfl
theorem env_of {W:World} (h:laidMetH Tryz.prog laidL W):EnvS W:=by
 have h':laidMet Tryz.prog laid5 W∧handlesMet Tryz.prog [("errors.errorType",Rows.laid_errors_errorType)] W:=by
  unfold laidMetH at h;rw[fSome] at h;simp only at h;rw[fNone] at h;exact h
 refine⟨env_of5 h'.1,?_⟩;obtain⟨name,u,ty,e1,e2,e3,e4,e5⟩:=h'.2 _ (List.mem_singleton.2 rfl);have en:name=[101,114,114,111,114]:=(Option.some.inj e1).symm;subst en;obtain rfl:=Option.some.inj (gRt.symm.trans e2);have hm:ty∈(List.range 290).filter fun t=>Tryz.prog.rowNamed t [101,114,114,111,114]:=List.mem_filter.2 ⟨List.mem_range.2 (by rw[<-gSize];exact e3),e4⟩
 rw[gOne] at hm;obtain rfl:=List.mem_singleton.1 hm;have hh:typeHandle Tryz.prog 28=hdl 28:=by kernel_rfl
 rw[hh] at e5;unfold qs;simpa using World.var?_cell gEt e5 0
noncomputable def lowB:Nat:=(World.holding Tryz.prog default ⟨#[],#[],[]⟩).heap.size
noncomputable def laidWorld (os:Os):World:=
 { (World.holding Tryz.prog os ⟨#[.cells #[.string ⟨#[118,97,108,117,101,32,111,117,116,32,111,102,32,114,97,110,103,101]⟩] 261,.cells #[.string ⟨#[105,110,118,97,108,105,100,32,115,121,110,116,97,120]⟩] 261],#[],[]⟩) with
  heap:=(((((((World.holding Tryz.prog os ⟨#[.cells #[.string ⟨#[118,97,108,117,101,32,111,117,116,32,111,102,32,114,97,110,103,101]⟩] 261,.cells #[.string ⟨#[105,110,118,97,108,105,100,32,115,121,110,116,97,120]⟩] 261],#[],[]⟩).heap.modify 4 fun
   | .cells _ t gH=> .cells #[.int .u8 0,.int .u8 1,.int .u8 28,.int .u8 2,.int .u8 29,.int .u8 14,.int .u8 24,.int .u8 3,.int .u8 30,.int .u8 22,.int .u8 20,.int .u8 15,.int .u8 25,.int .u8 17,.int .u8 4,.int .u8 8,.int .u8 31,.int .u8 27,.int .u8 13,.int .u8 23,.int .u8 21,.int .u8 19,.int .u8 16,.int .u8 7,.int .u8 26,.int .u8 12,.int .u8 18,.int .u8 6,.int .u8 11,.int .u8 5,.int .u8 10,.int .u8 9] t gH
   |o=>o).modify 5 fun
   | .cells _ t gH=> .cells #[.int .u8 0,.int .u8 1,.int .u8 56,.int .u8 2,.int .u8 57,.int .u8 49,.int .u8 28,.int .u8 3,.int .u8 61,.int .u8 58,.int .u8 42,.int .u8 50,.int .u8 38,.int .u8 29,.int .u8 17,.int .u8 4,.int .u8 62,.int .u8 47,.int .u8 59,.int .u8 36,.int .u8 45,.int .u8 43,.int .u8 51,.int .u8 22,.int .u8 53,.int .u8 39,.int .u8 33,.int .u8 30,.int .u8 24,.int .u8 18,.int .u8 12,.int .u8 5,.int .u8 63,.int .u8 55,.int .u8 48,.int .u8 27,.int .u8 60,.int .u8 41,.int .u8 37,.int .u8 16,.int .u8 46,.int .u8 35,.int .u8 44,.int .u8 21,.int .u8 52,.int .u8 32,.int .u8 23,.int .u8 11,.int .u8 54,.int .u8 26,.int .u8 40,.int .u8 15,.int .u8 34,.int .u8 20,.int .u8 31,.int .u8 10,.int .u8 25,.int .u8 14,.int .u8 19,.int .u8 9,.int .u8 13,.int .u8 8,.int .u8 7,.int .u8 6] t gH
   |o=>o).modify 1 fun
   | .cells _ t gH=> .cells #[.int .u64 1,.int .u64 10,.int .u64 100,.int .u64 1000,.int .u64 10000,.int .u64 100000,.int .u64 1000000,.int .u64 10000000,.int .u64 100000000,.int .u64 1000000000,.int .u64 10000000000,.int .u64 100000000000,.int .u64 1000000000000,.int .u64 10000000000000,.int .u64 100000000000000,.int .u64 1000000000000000,.int .u64 10000000000000000,.int .u64 100000000000000000,.int .u64 1000000000000000000,.int .u64 10000000000000000000] t gH
   |o=>o).modify 3 fun
   | .cells _ t gH=> .cells #[.iface 259 (.pointer (some ⟨lowB,0,none⟩))] t gH
   |o=>o).modify 2 fun
   | .cells _ t gH=> .cells #[.iface 259 (.pointer (some ⟨(lowB+1),0,none⟩))] t gH
   |o=>o).modify 0 fun
   | .cells _ t gH=> .cells #[.iface 167 (.agg #[hdl 28])] t gH
   |o=>o) }
theorem laid_met5 (os:Os) (args:Array Value):laidMet Tryz.prog laid5 ((laidWorld os).forCall (fun _ _=>0) ⟨#[],args,[]⟩).memory:=
 laidMet_of_run' 8 (by kernel_rfl) (by kernel_rfl)
theorem laid_met (os:Os) (args:Array Value):laidMetH Tryz.prog laidL ((laidWorld os).forCall (fun _ _=>0) ⟨#[],args,[]⟩).memory:=
 laidMetH_of_parts (laid_met5 os args) (by kernel_rfl)
end Go.Proofs.YtnedmonlofbahaaGreatDoor
