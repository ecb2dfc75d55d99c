/- Texts of this claim, joined. No condition. -/
import Derived.Test.YtlkkaepbnnakpaaGreatDoorQ11
import Derived.Test.YtlkkaepbnnakpaaGreatDoorBi
import Derived.Test.YtlkkaepbnnakpaaGreatDoorRows
import Derived.Lib.LaidTab
import Derived.Shelf.Vars
import Derived.OpenShut
import Derived.Deep.DeepHandedRow
set_option linter.unusedSimpArgs false
set_option linter.unusedVariables false
set_option maxRecDepth 10000
set_option maxHeartbeats 4000000
section
set_option maxRecDepth 100000
namespace Go.Proofs.YtlkkaepbnnakpaaGreatDoor
open Go Go.Bi Go.Proofs Go.Lib
abbrev LAID:List (String×DataW Unit):=[("math/bits.deBruijn32tab",Rows.laid_math_bits_deBruijn32tab),("math/bits.deBruijn64tab",Rows.laid_math_bits_deBruijn64tab),("internal/strconv.uint64pow10",Rows.laid_internal_strconv_uint64pow10),("unicode/utf8.acceptRanges",Rows.laid_unicode_utf8_acceptRanges),("unicode/utf8.first",Rows.laid_unicode_utf8_first)]
abbrev pows:List Int:=(List.range 20).map λi=>((10 ^ i:Nat):Int)
theorem gPow:Tryz.prog.globalNamed "internal/strconv.uint64pow10" = some 0:=by kernel_rfl
theorem tyPow:(Tryz.prog.globals[0]?).map (·.type)=some 178:=by kernel_rfl
theorem pows_eq:(Rows.laid_internal_strconv_uint64pow10:DataW Unit)=tabData .u64 pows:=by rfl
theorem pow_is{W:World}(hL:laidMet Tryz.prog LAID W):TabIs Tryz.prog W "internal/strconv.uint64pow10" .u64 pows:=by
 obtain⟨ps,⟨_,_,_,_,_,_,_,_,_,_,⟨_,_,_,_,_,_,_,_,_,_,⟨g,t,cs,fuel,p,q,hg,hty,hv,hd,_,_⟩,_⟩,_⟩,_,_⟩:=hL
 obtain rfl:=Option.some.inj (hg.symm.trans gPow)
 obtain rfl:=Option.some.inj (hty.symm.trans tyPow)
 rw[pows_eq] at hd
 unfold TabIs
 rw[hv,<- cells_of_tab Tryz.underlying178 Tryz.underlying157 (by kernel_rfl) (by kernel_rfl) hd]
theorem row0:(((begin Tryz.prog (λ_ _=>0) default).world.heap[0]?).bind Obj.row?).isSome=true:=by kernel_rfl
theorem row1:((begin Tryz.prog (λ_ _=>0) default).world.heap[1]?).bind Obj.row?=some (#[.int .i64 0],3):=by kernel_rfl
theorem globs_of{W:World}(hL:laidMet Tryz.prog LAID W)(hs:W.ShapedOpen Tryz.prog):∀b,Globs.has b->∃o,W.heap[b]?=some o/\Globs.ok b o:=by
 intro b hb
 rcases hb with rfl|rfl
 ·obtain⟨⟨zero,t⟩,hz⟩:=Option.isSome_iff_exists.1 row0
  obtain⟨cs,hh,_,_⟩:=hs.1 0 zero t (of_decide_eq_true (by kernel_rfl)) hz
  have h:=pow_is hL
  unfold TabIs World.var? at h
  rw[gPow,Option.bind_some,hh] at h
  have h:=Option.some.inj h
  refine⟨_,hh,λ_=>⟨_,_,by rw[h];rfl⟩,λe=>absurd e (by decide)⟩
 ·obtain⟨cs,hh,hsz,hr⟩:=hs.1 1 _ _ (of_decide_eq_true (by kernel_rfl)) row1
  obtain⟨m,hm⟩:=cell_of_shapedOpen_int hs (of_decide_eq_true (by kernel_rfl)) row1 rfl (by kernel_rfl) (by kernel_rfl) Tryz.underlying3
  refine⟨_,hh,λe=>absurd e (by decide),λ_=>⟨m,3,(0,0),?_⟩⟩
  have h1:cs.size=1:=hsz
  have h2:cs[0]?=some (.int .i64 m):=by simpa[World.cell?,hh] using hm
  congr 1
  refine Array.ext (by simpa using h1) λi hi1 hi2=>?_
  have:i=0:=by simp at hi2;omega
  subst this
  rw[Array.getElem?_eq_getElem hi1] at h2
  simpa using Option.some.inj h2
def litV:DataW Unit->List Value
 |.lit (.int k z)=>[.int k z]
 |_=>[]
def rowV:DataW Unit->Array Value
 |.agg l=>(l.flatMap λd=>match d with
  |.agg m=>m.flatMap litV
  |d=>litV d).toArray
 |_=>#[]
noncomputable def laidWorld (os:Os):World:=
 {World.holding Tryz.prog os ⟨#[],#[],[]⟩ with heap:=⟨.cells (rowV Rows.laid_internal_strconv_uint64pow10) 178 (0,0)::.cells #[.int .i64 0] 3 (0,0)::.cells (rowV Rows.laid_unicode_utf8_first) 184 (0,0)::.cells (rowV Rows.laid_unicode_utf8_acceptRanges) 187 (0,0)::.cells (rowV Rows.laid_math_bits_deBruijn32tab) 207 (0,0)::.cells (rowV Rows.laid_math_bits_deBruijn64tab) 208 (0,0)::(World.holding Tryz.prog os ⟨#[],#[],[]⟩).heap.toList.drop 6⟩}
theorem laid_met(os:Os)(args:Array Value):laidMet Tryz.prog LAID ((laidWorld os).forCall (λ_ _=>0) ⟨#[],args,[]⟩).memory:=
 laidMet_of_run' 8 (by kernel_rfl) (by kernel_rfl)
theorem vars_ok(os:Os)(args:Array Value):((laidWorld os).forCall (λ_ _=>0) ⟨#[],args,[]⟩).variablesB Tryz.prog=true:=by kernel_rfl
theorem rest_ok(os:Os)(args:Array Value):((((laidWorld os).forCall (λ_ _=>0) ⟨#[],args,[]⟩).heap.toList.drop Tryz.prog.globals.size).take ((begin Tryz.prog (λ_ _=>0) default).world.heap.size-Tryz.prog.globals.size))=(begin Tryz.prog (λ_ _=>0) default).world.heap.toList.drop Tryz.prog.globals.size:=by kernel_rfl
end Go.Proofs.YtlkkaepbnnakpaaGreatDoor
end
