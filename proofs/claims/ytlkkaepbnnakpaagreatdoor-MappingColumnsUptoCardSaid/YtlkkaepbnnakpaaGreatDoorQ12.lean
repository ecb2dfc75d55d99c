/- Texts of this claim, joined. No condition. -/
import Derived.Test.YtlkkaepbnnakpaaGreatDoorQ11
import Derived.Test.YtlkkaepbnnakpaaGreatDoorBi
import Derived.Test.YtlkkaepbnnakpaaGreatDoorRows
import Derived.Lib.LaidTab
import Derived.Shelf.Vars
import Derived.OpenShut
import Derived.Deep.DeepHandedRow
set_option linter.unusedSimpArgs false
set_option linter.unusedVariables false
set_option maxRecDepth 10000
set_option maxHeartbeats 4000000
section
set_option maxRecDepth 100000
namespace Go.Proofs.YtlkkaepbnnakpaaGreatDoor
open Go Go.Bi Go.Proofs Go.Lib
abbrev A8P:List (String×DataW Unit):=[("math/bits.deBruijn32tab",Rows.laid_math_bits_deBruijn32tab),("math/bits.deBruijn64tab",Rows.laid_math_bits_deBruijn64tab),("internal/strconv.uint64pow10",Rows.laid_internal_strconv_uint64pow10),("unicode/utf8.acceptRanges",Rows.laid_unicode_utf8_acceptRanges),("unicode/utf8.first",Rows.laid_unicode_utf8_first)]
abbrev B9d:List Int:=(List.range 20).map λi=>((10 ^ i:Nat):Int)
theorem B84:Tryz.prog.globalNamed "internal/strconv.uint64pow10" = some 0:=by kernel_rfl
theorem D3q:(Tryz.prog.globals[0]?).map (·.type)=some 178:=by kernel_rfl
theorem D2B:(Rows.laid_internal_strconv_uint64pow10:DataW Unit)=tabData .u64 B9d:=by rfl
theorem D2A{W:World}(hL:laidMet Tryz.prog A8P W):TabIs Tryz.prog W "internal/strconv.uint64pow10" .u64 B9d:=by
 obtain⟨ps,⟨_,_,_,_,_,_,_,_,_,_,⟨_,_,_,_,_,_,_,_,_,_,⟨g,t,cs,fuel,p,q,hg,hty,hv,hd,_,_⟩,_⟩,_⟩,_,_⟩:=hL
 obtain rfl:=j7 (hg.symm.trans B84)
 obtain rfl:=j7 (hty.symm.trans D3q)
 rw[D2B] at hd
 unfold TabIs
 rw[hv,<- cells_of_tab Tryz.underlying178 Tryz.underlying157 (by kernel_rfl) (by kernel_rfl) hd]
theorem D2Q:(((begin Tryz.prog (λ_ _=>0) default).world.heap[0]?).bind Obj.row?).isSome=true:=by kernel_rfl
theorem B9v:((begin Tryz.prog (λ_ _=>0) default).world.heap[1]?).bind Obj.row?=some (#[.int .i64 0],3):=by kernel_rfl
theorem B0v{W:World}(hL:laidMet Tryz.prog A8P W)(hs:W.ShapedOpen Tryz.prog):∀b,J6.has b->∃o,W.heap[b]?=some o/\J6.ok b o:=by
 intro b hb
 rcases hb with rfl|rfl
 ·obtain⟨⟨zero,t⟩,hz⟩:=Option.isSome_iff_exists.1 D2Q
  obtain⟨cs,hh,_,_⟩:=hs.1 0 zero t (of_decide_eq_true (by kernel_rfl)) hz
  have h:=D2A hL
  unfold TabIs World.var? at h
  rw[B84,Option.bind_some,hh] at h
  have h:=j7 h
  refine⟨_,hh,λ_=>⟨_,_,by rw[h];rfl⟩,λe=>absurd e (by decide)⟩
 ·obtain⟨cs,hh,hsz,hr⟩:=hs.1 1 _ _ (of_decide_eq_true (by kernel_rfl)) B9v
  obtain⟨m,hm⟩:=cell_of_shapedOpen_int hs (of_decide_eq_true (by kernel_rfl)) B9v rfl (by kernel_rfl) (by kernel_rfl) Tryz.underlying3
  refine⟨_,hh,λe=>absurd e (by decide),λ_=>⟨m,3,(0,0),?_⟩⟩
  have h1:cs.size=1:=hsz
  have h2:cs[0]?=some (.int .i64 m):=by simpa[World.cell?,hh] using hm
  congr 1
  refine Array.ext (by simpa using h1) λi hi1 hi2=>?_
  have:i=0:=by simp at hi2;omega
  subst this
  rw[J5 hi1] at h2
  simpa using j7 h2
def B8o:DataW Unit->List Value
 |.lit (.int k z)=>[.int k z]
 |_=>[]
def A6d:DataW Unit->Array Value
 |.agg l=>(l.flatMap λd=>match d with
  |.agg m=>m.flatMap B8o
  |d=>B8o d).toArray
 |_=>#[]
noncomputable def A1Q (os:Os):World:=
 {World.holding Tryz.prog os ⟨#[],#[],[]⟩ with heap:=⟨.cells (A6d Rows.laid_internal_strconv_uint64pow10) 178 (0,0)::.cells #[.int .i64 0] 3 (0,0)::.cells (A6d Rows.laid_unicode_utf8_first) 184 (0,0)::.cells (A6d Rows.laid_unicode_utf8_acceptRanges) 187 (0,0)::.cells (A6d Rows.laid_math_bits_deBruijn32tab) 207 (0,0)::.cells (A6d Rows.laid_math_bits_deBruijn64tab) 208 (0,0)::(World.holding Tryz.prog os ⟨#[],#[],[]⟩).heap.toList.drop 6⟩}
theorem B0B(os:Os)(args:Array Value):laidMet Tryz.prog A8P ((A1Q os).forCall (λ_ _=>0) ⟨#[],args,[]⟩).memory:=
 laidMet_of_run' 8 (by kernel_rfl) (by kernel_rfl)
theorem B1u(os:Os)(args:Array Value):((A1Q os).forCall (λ_ _=>0) ⟨#[],args,[]⟩).variablesB Tryz.prog=true:=by kernel_rfl
theorem B11(os:Os)(args:Array Value):((((A1Q os).forCall (λ_ _=>0) ⟨#[],args,[]⟩).heap.toList.drop Tryz.prog.globals.size).take ((begin Tryz.prog (λ_ _=>0) default).world.heap.size-Tryz.prog.globals.size))=(begin Tryz.prog (λ_ _=>0) default).world.heap.toList.drop Tryz.prog.globals.size:=by kernel_rfl
end Go.Proofs.YtlkkaepbnnakpaaGreatDoor
end
