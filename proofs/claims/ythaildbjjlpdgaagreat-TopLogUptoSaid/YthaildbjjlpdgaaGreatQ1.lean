/- Texts of this claim, joined. No condition. -/
import Derived.Test.YthaildbjjlpdgaaGreatBi
import Derived.Test.YthaildbjjlpdgaaGreatIc0
import Derived.Lib.Strings
import Derived.Lib.Slices
import Derived.Lib.Walk
import Derived.Lib.Bytealg
import Derived.Test.YthaildbjjlpdgaaGreatRows
import Derived.LoopN
set_option linter.unusedSimpArgs false
set_option linter.unusedVariables false
set_option maxRecDepth 10000
set_option maxHeartbeats 4000000
section
namespace Go.Bi
open Go
section
variable {P:Program}{n nb:Nat}{M:Mem}{G:Gh}{os:List AO}{w:World}{ρ:Rho}{a:Act}
def retOI(Q:AV->List AO->Prop)(rs:List RV)(ρ:Rho)(os:List AO):Prop:=resI ρ os rs λl=>match l with
 |[v]=>Q v os
 |_=>False
def retO(Q:AV->List AO->Prop)(rs:List RV)(L:Sl)(os:List AO):Prop:=xRes L os rs λl=>match l with
 |[v]=>Q v os
 |_=>False
theorem retO_ok{Q:AV->List AO->Prop}{rs:List RV}{L:Sl}{os:List AO}(h:retO Q rs L os):retOI Q rs (ofL L) os:=xRes_ok h
theorem own_ok{c:Ctx}(hR:Rel n nb c M G os w ρ a){fn:Func}{rs:List RV}(hrs:fn.results.toList.mapM (cRV P)=some rs){Q:AV->List AO->Prop}(h:retOI Q rs ρ os) :
  ∃v,(results fn a.tmps).run P w=.ok v w/\∃M' G' r os',Env M' G' os' w/\Since c.M c.G c.os c.w M' G' os' w/\VA M' G' os' r v/\Q r os':=by
 obtain⟨l,vs,h1,h2,h3,h4⟩:=resI_run hR.env hR.tmps _ rs hrs _ h
 match l,h1,h3,h4 with
 |[x],h1,h3,h4=>
  simp only[List.length_cons,List.length_nil] at h3
  refine⟨_,run_results h2,M,G,x,os,hR.env,hR.since,?_,h1⟩
  rw[dif_pos (by omega)]
  exact h4 0 x vs[0] rfl (List.getElem?_eq_getElem (by omega))
theorem fn_own(hm:P.follows .mixedOrders=true){f:FuncId}{fn:Func}{code:Code}{ic:IC}{rs:List RV}(hf:P.funcs[f]?=some fn)(hname:fn.name≠ "runtime.NumGoroutine")(hb:fn.body=some code)(hc:cC P fn.ntmps code=some ic)
  (hrs:fn.results.toList.mapM (cRV P)=some rs) {args:List AV} {bs:List AO} (hargs:args.length<=fn.ntmps) {Q:AV->List AO->Prop}
  (h:wpI P fn.ntmps bs.length ic {norm:=retOI Q rs,exit:=λ_ _ _=>False,ret:=retOI Q rs} (argsRho args) bs):CallSpec P f args bs Q:=by
 refine⟨⟨fn,hf,by rw[hb];rfl,hname⟩,λM G w vs he hl hv=>?_⟩
 refine calls_of_wp hf hb (wp_mono (wpI_tri hm code ic hc _ _ _ h ⟨M,G,bs,w⟩ M G w {tmps:=vs++Array.replicate (fn.ntmps-vs.size) undef,defers:=[]} ?_) λe a' w' hp=>?_)
 ·exact {
   env:=he,since:=Since.refl ..,size:=by simp;omega,defers:=rfl,base:=rfl
   tmps:=λt=>by
    unfold argsRho
    by_cases ht:t<args.length
    ·have h1:(vs++Array.replicate (fn.ntmps-vs.size) undef).getD t undef=vs[t]:=by
      simp[Array.getElem?_append_left (show t<vs.size by omega),show t<vs.size by omega]
     have h2:args.getD t .junk=args[t]:=by simp[ht]
     show VA M G bs (args.getD t .junk) ((vs++Array.replicate (fn.ntmps-vs.size) undef).getD t undef)
     rw[h1,h2]
     have:=hv t args[t] vs[t] (List.getElem?_eq_getElem ht) (Array.getElem?_eq_getElem (by omega))
     generalize args[t]=c at this
     cases c with
     |tup cs=>exact this.elim
     |junk=>trivial
     |_=>exact this
    ·have:args.getD t .junk=.junk:=by simp[List.getD_eq_getElem?_getD,List.getElem?_eq_none (Nat.le_of_not_lt ht)]
     rw[this]
     trivial}
 ·have fin:Fits fn.ntmps bs.length ⟨M,G,bs,w⟩ (retOI Q rs) a' w'->a'.defers=[]/\∃v,(results fn a'.tmps).run P w'=.ok v w'/\∃v',Ending.returned v=.returned v'/\∃M' G' r os',Env M' G' os' w'/\Since M G bs w M' G' os' w'/\VA M' G' os' r v'/\Q r os':=by
   rintro⟨M',G',os',ρ',hR,hk⟩
   obtain⟨v,h1,h2⟩:=own_ok hR hrs hk
   exact⟨hR.defers,v,h1,v,rfl,h2⟩
  cases e with
  |normal=>exact fin hp
  |ret=>exact fin hp
  |exit id=>obtain⟨_,_,_,_,_,hk⟩:=hp;exact hk.elim
  |_=>exact hp.elim
end
theorem IsFn.goO{P:Program}(hm:P.follows .mixedOrders=true){f n:Nat}{ic:IC}{rs:List RV}(h:IsFn P f n ic rs){args:List AV}{bs:List AO}(hargs:Nat.ble args.length n=true){Q:AV->List AO->Prop}
  (hw:Go (xI P n bs.length ic (retO Q rs) (λ_ _ _=>False) (retO Q rs) (argsL 0 args) bs)):CallSpec P f args bs Q:=by
 obtain⟨fn,h1,h2,h3,h4,h5⟩:=h
 obtain⟨code,hb,hc⟩:=Option.bind_eq_some_iff.1 h4
 subst h2
 refine fn_own hm h1 (by simpa using h3) hb hc h5 (Nat.le_of_ble_eq_true hargs) ?_
 rw[ofL_args]
 exact xI_ok (K:=⟨retO Q rs,λ_ _ _=>False,retO Q rs⟩) ⟨λL os h=>retO_ok h,λ_ _ _ h=>h,λL os h=>retO_ok h⟩ hw
theorem CallSpec.alone{P:Program}{g:FuncId}{args:List AV}{Q:AV->List AO->Prop}(h:CallSpec P g args [] Q)(hd:∀a∈args,∃x,a=.d x)(os:List AO) :
  CallSpec P g args os (λr os'=>∃r0 os0,Q r0 os0/\r=mA (rn [] os.length) r0/\os'=os++os0.map (mO (rn [] os.length))):=by
 have:=CallSpec.frame (K:=λr os'=>∃r0 os0,Q r0 os0/\r=mA (rn [] os.length) r0/\os'=os++os0.map (mO (rn [] os.length))) h [] os rfl (by simp) (λi x hx=>by simp at hx)
  (λa ha=>by obtain⟨x,rfl⟩:=hd a ha;trivial) (λx hx=>by simp at hx) (λr bs' hq=>⟨r,bs',hq,rfl,rfl⟩)
 have e:args.map (mG (rn [] os.length))=args:=by
  rw[List.map_congr_left (g:=id) (λa ha=>by obtain⟨x,rfl⟩:=hd a ha;rfl),List.map_id]
 rwa [e] at this
end Go.Bi
end
section
namespace Go.Proofs
open Go.Bi
abbrev eI(n:Int):D:=.int .i64 n
abbrev eP(a b:Int):AV:=.agg [.d (eI a),.d (eI b)]
def eIs(l:List Int):List (List D):=l.map λr=>[eI r]
theorem eIs_get{l:List Int}{i:Nat}{r:Int}(h:l[i]?=some r):(eIs l)[i]?=some [eI r]:=by simp[eIs,h]
theorem eIs_len(l:List Int):(eIs l).length=l.length:=by simp[eIs]
theorem eIs_mem(l:List Int):∀e∈eIs l,e.length=1:=by
 intro e he
 obtain⟨x,_,rfl⟩:=List.mem_map.1 he
 rfl
theorem all_take_succ{α:Type}{f:α->Bool}{l:List α}{i:Nat}{x:α}(h:l[i]?=some x):(l.take (i+1)).all f=((l.take i).all f&&f x):=by
 simp only[List.take_add_one,h,List.all_append,Option.toList,List.all_cons,List.all_nil,Bool.and_true]
theorem all_none{α:Type}{f:α->Bool}{l:List α}{i:Nat}{x:α}(h:l[i]?=some x)(hx:f x=false):l.all f=false:=by
 rw[Bool.eq_false_iff]
 intro ha
 rw[List.all_eq_true.1 ha x (List.mem_of_getElem? h)] at hx
 cases hx
def valid(a b:Int):Bool:=decide (0<=a/\a<b/\b<=1099511627776)
theorem C.period_Valid(a b:Int):Pure Tryz.prog N.period_Valid [eP a b] (.d (.bool (valid a b))):=by
 refine F.period_Valid.go mixed rfl ?_
 repeat' first|refine st ?_|refine⟨λ_=>?_,λ_=>?_⟩|fail
 all_goals (simp_all[valid]<;>omega)
end Go.Proofs
end
section
namespace Go.Proofs
open Go.Bi
structure Vl where
 k:Int
 n:Int
 s:List UInt8
 deriving DecidableEq
abbrev Vl.ds(v:Vl):List D:=[eI v.k,eI v.n,.str v.s]
abbrev eV(v:Vl):AV:=.agg [.d (eI v.k),.d (eI v.n),.d (.str v.s)]
def prC(c:UInt8):Bool:=decide (32<=c.toNat/\c.toNat<=126)
def prB(s:List UInt8):Bool:=s.all prC
def vValid(v:Vl):Bool:=
 if v.k=0 then decide (v.n=0/\v.s=[])
 else if v.k=1 then decide (v.s=[]/\-1125899906842624<=v.n/\v.n<=1125899906842624)
 else if v.k=2 then decide (v.n=0/\v.s.length<=200)&&prB v.s
 else if v.k=3 then decide (v.s=[]/\(v.n=0\/v.n=1)) else false
theorem C.value_printable(s:List UInt8)(hs:s.length<=4611686018427387904):Pure Tryz.prog N.value_printable [.d (.str s)] (.d (.bool (prB s))):=by
 refine F.value_printable.go mixed rfl ?_
 repeat' first|refine st ?_|((with_reducible apply go_i);conv=>whnf)|refine⟨λ_=>?_,λ_=>?_⟩|fail
 refine x_loop1 mixed Lt.value_printable_l0 Lk.value_printable_l0 (λ(i:Nat)=>[.d (eI i)]) (λi=>[]) (λi=>i<=s.length/\(s.take i).all prC=true) (λi=>s.length-i) 0 rfl rfl rfl rfl (λ_ _=>⟨rfl,rfl⟩) rfl ⟨by omega,rfl⟩ ?_
 repeat' first|refine st ?_|((with_reducible apply go_i);conv=>whnf)|refine⟨λ_=>?_,λ_=>?_⟩|fail
 intro i ⟨h1,h2⟩
 cases hx:s[i]? with
 |some c=>
  have hlt:=(List.getElem?_eq_some_iff.1 hx).1
  have hg:s.getD ((i:Int)).toNat 0=c:=by simp[List.getD_eq_getElem?_getD,hx]
  repeat' first|refine st ?_|((with_reducible apply go_i);conv=>whnf)|refine⟨λ_=>?_,λ_=>?_⟩|fail
  ·rename_i h
   rw[hg] at h
   rw[prB,all_none hx (decide_eq_false (by omega))]
  ·rename_i h h'
   rw[hg] at h h'
   rw[prB,all_none hx (decide_eq_false (by omega))]
  ·rename_i h h'
   rw[hg] at h h'
   refine⟨i+1,rfl,rfl,rfl,by omega,by omega,?_⟩
   rw[all_take_succ hx,h2,prC,decide_eq_true (by omega)];rfl
 |none=>
  have hge:=List.getElem?_eq_none_iff.1 hx
  rw[List.take_of_length_le hge] at h2
  repeat' first|refine st ?_|((with_reducible apply go_i);conv=>whnf)|refine⟨λ_=>?_,λ_=>?_⟩|fail
  rw[prB,h2]
theorem C.value_Valid(v:Vl)(hs:v.s.length<=4611686018427387904):Pure Tryz.prog N.value_Valid [eV v] (.d (.bool (vValid v))):=by
 refine F.value_Valid.go mixed rfl ?_
 have hP:=C.value_printable v.s hs
 repeat' first|refine st ?_|((with_reducible apply go_i);conv=>whnf)|refine⟨λ_=>?_,λ_=>?_⟩|fail
 all_goals (simp_all[vValid]<;>omega)
end Go.Proofs
end
section
namespace Go.Proofs
open Go.Bi
def eVs(l:List Vl):List (List D):=l.map Vl.ds
theorem eVs_len(l:List Vl):(eVs l).length=l.length:=by simp[eVs]
theorem eVs_get{l:List Vl}{i:Nat}{v:Vl}(h:l[i]?=some v):(eVs l)[i]?=some v.ds:=by simp[eVs,h]
theorem eVs_mem(l:List Vl):∀e∈eVs l,e.length=3:=by
 intro e he
 obtain⟨x,_,rfl⟩:=List.mem_map.1 he
 rfl
end Go.Proofs
end
section
namespace Go.Proofs
open Go.Bi
inductive Ex where
 |mk (op n:Int) (v:Vl) (name:List UInt8) (nl:Bool) (args:List Ex)
theorem Ex.ind{p:Ex->Prop}(h:∀op n v name nl args,(∀a∈args,p a)->p (.mk op n v name nl args)):∀e,p e
 |.mk op n v name nl args=>h _ _ _ _ _ _ λa ha=>Ex.ind h a
termination_by e=>SizeOf.sizeOf e
decreasing_by
 have:=List.sizeOf_lt_of_mem ha
 simp only[Ex.mk.sizeOf_spec]
 omega
def ng(nl:Bool)(l:List (List D)):D:=if nl&&l.isEmpty then .nil else .sl l
theorem sld_ng{nl:Bool}{l:List (List D)}:SlD (ng nl l) l:=by
 unfold ng
 split
 ·rename_i h
  simp only[Bool.and_eq_true,List.isEmpty_iff] at h
  exact .inl ⟨rfl,h.2⟩
 ·exact .inr rfl
abbrev xds(op n:Int)(v:Vl)(name:List UInt8)(d:D):List D:=[eI op,eI n,eI v.k,eI v.n,.str v.s,.str name,d]
abbrev eX(op n:Int)(v:Vl)(name:List UInt8)(d:D):AV:=.agg [.d (eI op),.d (eI n),.d (eI v.k),.d (eI v.n),.d (.str v.s),.d (.str name),.d d]
mutual
def Ex.ds:Ex->List D
 |.mk op n v name nl args=>xds op n v name (ng nl (Ex.dss args))
def Ex.dss:List Ex->List (List D)
 |[]=>[]
 |e::es=>e.ds::Ex.dss es
end
theorem Ex.dss_eq:∀l,Ex.dss l=l.map Ex.ds
 |[]=>by simp[Ex.dss]
 |e::es=>by simp[Ex.dss,Ex.dss_eq es]
def xL(l:List Ex):List (List D):=l.map Ex.ds
theorem Ex.ds_mk(op n:Int)(v:Vl)(name:List UInt8)(nl:Bool)(args:List Ex):(Ex.mk op n v name nl args).ds=xds op n v name (ng nl (xL args)):=by
 rw[Ex.ds,Ex.dss_eq];rfl
def Ex.av(e:Ex):AV:=.agg (e.ds.map .d)
theorem Ex.av_mk(op n:Int)(v:Vl)(name:List UInt8)(nl:Bool)(args:List Ex):(Ex.mk op n v name nl args).av=eX op n v name (ng nl (xL args)):=by
 rw[Ex.av,Ex.ds_mk];rfl
theorem xL_len(l:List Ex):(xL l).length=l.length:=by simp[xL]
theorem xL_mem(l:List Ex):∀e∈xL l,e.length=7:=by
 intro e he
 obtain⟨⟨op,n,v,name,nl,args⟩,_,rfl⟩:=List.mem_map.1 he
 rw[Ex.ds_mk];rfl
theorem xL_get{l:List Ex}{i:Nat}{e:Ex}(h:l[i]?=some e):(xL l)[i]?=some e.ds:=by simp[xL,h]
def Ex.bk(e:Ex):Nat:=bulkL e.ds
theorem bulkLL_mem{l:List (List D)}{x:List D}(h:x∈l):bulkL x<=bulkLL l:=by
 induction l with
 |nil=>cases h
 |cons y l ih=>
  simp only[bulkLL]
  rcases List.mem_cons.1 h with rfl|h
  ·omega
  ·have:=ih h;omega
theorem bulkLL_len{l:List (List D)}(h:∀x∈l,1<=bulkL x):l.length<=bulkLL l:=by
 induction l with
 |nil=>exact Nat.zero_le _
 |cons y l ih=>
  have h1:=h y (by simp)
  have h2:=ih λx hx=>h x (by simp[hx])
  simp only[bulkLL,List.length_cons]
  omega
theorem Ex.bk_mk(op n:Int)(v:Vl)(name:List UInt8)(nl:Bool)(args:List Ex):bulkLL (xL args)+v.s.length+name.length+6<=(Ex.mk op n v name nl args).bk:=by
 rw[Ex.bk,Ex.ds_mk]
 simp only[bulkL,bulkD]
 unfold ng
 split
 ·rename_i h
  simp only[Bool.and_eq_true,List.isEmpty_iff] at h
  rw[h.2]
  simp only[bulkD,bulkLL]
  omega
 ·simp only[bulkD];omega
theorem Ex.bk_pos(e:Ex):6<=e.bk:=by
 obtain⟨op,n,v,name,nl,args⟩:=e
 have:=Ex.bk_mk op n v name nl args
 omega
theorem xL_bulk_len(l:List Ex):l.length<=bulkLL (xL l):=by
 rw[<- xL_len l]
 refine bulkLL_len λx hx=>?_
 obtain⟨e,_,rfl⟩:=List.mem_map.1 hx
 have:=e.bk_pos
 unfold Ex.bk at this
 omega
theorem Ex.bk_arg{op n:Int}{v:Vl}{name:List UInt8}{nl:Bool}{args:List Ex}{a:Ex}(h:a∈args):a.bk<(Ex.mk op n v name nl args).bk:=by
 have h1:=Ex.bk_mk op n v name nl args
 have h2:bulkL a.ds<=bulkLL (xL args):=bulkLL_mem (List.mem_map.2 ⟨a,h,rfl⟩)
 unfold Ex.bk at *
 omega
theorem Ex.bk_bounds{op n:Int}{v:Vl}{name:List UInt8}{nl:Bool}{args:List Ex}{B:Nat}(h:(Ex.mk op n v name nl args).bk<=B):args.length<=B/\v.s.length<=B/\name.length<=B/\∀a∈args,a.bk<=B:=by
 have h1:=Ex.bk_mk op n v name nl args
 have h2:=xL_bulk_len args
 exact⟨by omega,by omega,by omega,λa ha=>by have:=Ex.bk_arg (op:=op) (n:=n) (v:=v) (name:=name) (nl:=nl) ha;omega⟩
end Go.Proofs
end
section
namespace Go.Proofs
open Go.Bi
abbrev T.int:TypeId:=3
abbrev T.bool:TypeId:=4
abbrev T.str:TypeId:=9
abbrev T.val:TypeId:=83
abbrev T.ints:TypeId:=73
abbrev T.vals:TypeId:=173
theorem cells_int:Tryz.prog.cellsOf T.int=1:=by kernel_rfl
theorem cells_str:Tryz.prog.cellsOf T.str=1:=by kernel_rfl
theorem cells_val:Tryz.prog.cellsOf T.val=3:=by kernel_rfl
theorem cells_bool:Tryz.prog.cellsOf T.bool=1:=by kernel_rfl
theorem wt_bool{ds:List D}(h:WT Tryz.prog T.bool ds):∃b,ds=[.bool b]:=h.bool' Tryz.underlying4
theorem wt_int{ds:List D}(h:WT Tryz.prog T.int ds):∃n,ds=[eI n]:=by
 obtain⟨a,ha,_,_⟩:=h.int' Tryz.underlying3
 exact⟨a,ha⟩
theorem wt_str{ds:List D}(h:WT Tryz.prog T.str ds):∃s,ds=[.str s]:=by
 obtain⟨a,ha,_⟩:=h.str' Tryz.underlying9
 exact⟨a,ha⟩
theorem wt_val{ds:List D}(h:WT Tryz.prog T.val ds):∃v:Vl,ds=v.ds:=by
 obtain⟨hl,hf⟩:=h.st' Tryz.underlying83
 rw[cells_val] at hl
 match ds,hl with
 |[x,y,z],_=>
  have h0:=hf _ (List.mem_cons_self ..)
  have h1:=hf _ (List.mem_cons_of_mem _ (List.mem_cons_self ..))
  have h2:=hf _ (List.mem_cons_of_mem _ (List.mem_cons_of_mem _ (List.mem_cons_self ..)))
  dsimp only at h0 h1 h2
  rw[cells_int] at h0 h1
  rw[cells_str] at h2
  obtain⟨a,ha⟩:=wt_int h0
  obtain⟨b,hb⟩:=wt_int h1
  obtain⟨s,hs⟩:=wt_str h2
  simp at ha hb hs
  exact⟨⟨a,b,s⟩,by rw[ha,hb,hs]⟩
theorem wt_ints{ds:List D}(h:WT Tryz.prog T.ints ds):∃d ks,ds=[d]/\SlD d (eIs ks):=by
 obtain⟨d,es,h1,h2,h4,h3⟩:=h.sl' Tryz.underlying73
 have:∃ks,es=eIs ks:=by
  clear h1 h2 h4
  induction es with
  |nil=>exact⟨[],rfl⟩
  |cons x es ih=>
   obtain⟨n,hn⟩:=wt_int (h3 x (by simp))
   obtain⟨ks,hk⟩:=ih λy hy=>h3 y (by simp[hy])
   exact⟨n::ks,by rw[hn,hk];rfl⟩
 obtain⟨ks,rfl⟩:=this
 exact⟨d,ks,h1,h2⟩
theorem wt_vals{ds:List D}(h:WT Tryz.prog T.vals ds):∃d row,ds=[d]/\SlD d (eVs row):=by
 obtain⟨d,es,h1,h2,h4,h3⟩:=h.sl' Tryz.underlying173
 have:∃row,es=eVs row:=by
  clear h1 h2 h4
  induction es with
  |nil=>exact⟨[],rfl⟩
  |cons x es ih=>
   obtain⟨n,hn⟩:=wt_val (h3 x (by simp))
   obtain⟨ks,hk⟩:=ih λy hy=>h3 y (by simp[hy])
   exact⟨n::ks,by rw[hn,hk];rfl⟩
 obtain⟨ks,rfl⟩:=this
 exact⟨d,ks,h1,h2⟩
theorem av_int(d:D):avOf Tryz.prog T.int [d]=.d d:=by unfold avOf;rw[Tryz.underlying3]
theorem sld_bulk{d:D}{es:List (List D)}(h:SlD d es):bulkLL es<=bulkL [d]:=by
 rcases h with ⟨rfl,rfl⟩|rfl
 ·simp[bulkLL]
 ·simp only[bulkL,bulkD];omega
theorem bulkR(H:Type):Bulk (H:=H) Go.Proofs.YthaildbjjlpdgaaGreat.Rows.uptoBulk Go.Proofs.YthaildbjjlpdgaaGreat.Rows.uptoBulkAll where
 lit l:=by unfold Go.Proofs.YthaildbjjlpdgaaGreat.Rows.uptoBulk;split<;>simp_all
 str b:=by simp[Go.Proofs.YthaildbjjlpdgaaGreat.Rows.uptoBulk]
 nil:=by simp[Go.Proofs.YthaildbjjlpdgaaGreat.Rows.uptoBulk]
 sl es sp:=by simp[Go.Proofs.YthaildbjjlpdgaaGreat.Rows.uptoBulk]
 agg ps:=by simp[Go.Proofs.YthaildbjjlpdgaaGreat.Rows.uptoBulk]
 cons x l:=by simp[Go.Proofs.YthaildbjjlpdgaaGreat.Rows.uptoBulkAll]
end Go.Proofs
end
section
namespace Go.Proofs
open Go.Bi
abbrev T.exs:TypeId:=77
abbrev T.ex:TypeId:=222
theorem cells_exs:Tryz.prog.cellsOf T.exs=1:=by kernel_rfl
theorem cells_ex:Tryz.prog.cellsOf T.ex=7:=by kernel_rfl
theorem wt_ex'{t:TypeId}{ds:List D}(h:WT Tryz.prog t ds):(t=T.ex->∃e:Ex,ds=e.ds)/\(t=T.exs->∃nl args,ds=[ng nl (xL args)]):=by
 induction h with
 |int h=>exact⟨λe=>(by subst e;rw[Tryz.underlying222] at h;cases h),λe=>(by subst e;rw[Tryz.underlying77] at h;cases h)⟩
 |bool h=>exact⟨λe=>(by subst e;rw[Tryz.underlying222] at h;cases h),λe=>(by subst e;rw[Tryz.underlying77] at h;cases h)⟩
 |str h=>exact⟨λe=>(by subst e;rw[Tryz.underlying222] at h;cases h),λe=>(by subst e;rw[Tryz.underlying77] at h;cases h)⟩
 |nil h=>exact⟨λe=>(by subst e;rw[Tryz.underlying222] at h;cases h),λe=>⟨true,[],rfl⟩⟩
 |@sl t e es h hl hs he ih=>
  refine⟨λe=>(by subst e;rw[Tryz.underlying222] at h;cases h),λe'=>?_⟩
  subst e'
  rw[Tryz.underlying77] at h
  cases h
  have:∃l,es=xL l:=by
   clear he hs hl
   induction es with
   |nil=>exact⟨[],rfl⟩
   |cons x es ihh=>
    obtain⟨n,hn⟩:=(ih x (by simp)).1 rfl
    obtain⟨ks,hk⟩:=ihh λy hy=>ih y (by simp[hy])
    exact⟨n::ks,by rw[hn,hk];rfl⟩
  obtain⟨l,rfl⟩:=this
  exact⟨false,l,rfl⟩
 |@st t fs ds h hl hf ih=>
  refine⟨λe=>?_,λe=>(by subst e;rw[Tryz.underlying77] at h;cases h)⟩
  subst e
  rw[Tryz.underlying222] at h
  cases h
  rw[cells_ex] at hl
  match ds,hl with
  |[d0,d1,d2,d3,d4,d5,d6],_=>
   have h0:=hf _ (List.mem_cons_self ..)
   have h1:=hf _ (List.mem_cons_of_mem _ (List.mem_cons_self ..))
   have h2:=hf _ (List.mem_cons_of_mem _ (List.mem_cons_of_mem _ (List.mem_cons_self ..)))
   have h3:=hf _ (List.mem_cons_of_mem _ (List.mem_cons_of_mem _ (List.mem_cons_of_mem _ (List.mem_cons_self ..))))
   have h4:=(ih _ (List.mem_cons_of_mem _ (List.mem_cons_of_mem _ (List.mem_cons_of_mem _ (List.mem_cons_of_mem _ (List.mem_cons_self ..)))))).2 rfl
   dsimp only at h0 h1 h2 h3 h4
   rw[cells_int] at h0 h1
   rw[cells_val] at h2
   rw[cells_str] at h3
   rw[cells_exs] at h4
   obtain⟨a,ha⟩:=wt_int h0
   obtain⟨b,hb⟩:=wt_int h1
   obtain⟨v,hv⟩:=wt_val h2
   obtain⟨s,hs⟩:=wt_str h3
   obtain⟨nl,args,hx⟩:=h4
   simp at ha hb hs hx
   refine⟨.mk a b v s nl args,?_⟩
   rw[Ex.ds_mk,ha,hb,hs,hx]
   have hv:[d2,d3,d4]=[eI v.k,eI v.n,.str v.s]:=hv
   simp only[List.cons.injEq,and_true] at hv
   rw[hv.1,hv.2.1,hv.2.2]
end Go.Proofs
end
section
namespace Go.Bi
open Go
def slD(nl:Bool)(es:List (List D)):D:=if nl then .nil else .sl es
def DC1(os:List AO)(c:AV)(x:D):Prop:=c=.d x\/∃id es sz frz nl,c=.arr id es.length/\os[id]?=some (.arr es sz frz nl)/\x=slD nl es
def DC(os:List AO)(c:AV)(x:D):Prop:=DC1 os c x\/∃(id:Nat) (es:List (List AV)) (sz:Nat) (nl:Bool) (l:List (List D)),c=.rs id es.length/\os[id]?=some (.rarr es sz nl)/\l.length=es.length/\
 (∀(i:Nat) (e:List AV) (e':List D),es[i]?=some e->l[i]?=some e'->e'.length=e.length/\∀(j:Nat) (c:AV) (x:D),e[j]?=some c->e'[j]?=some x->DC1 os c x)/\x=slD nl l
def DL(os:List AO)(cs:List AV)(xs:List D):Prop:=xs.length=cs.length/\∀(j:Nat) (c:AV) (x:D),cs[j]?=some c->xs[j]?=some x->DC os c x
def DG(os:List AO)(a r:AV):Prop:=(∃x,DC os a x/\r=.d x)\/∃(cs:List AV) (xs:List D),a=.agg cs/\r=.agg (xs.map .d)/\DL os cs xs
def DA(os:List AO)(a r:AV):Prop:=DG os a r\/∃cs rs:List AV,a=.tup cs/\r=.tup rs/\rs.length=cs.length/\∀(j:Nat) (c x:AV),cs[j]?=some c->rs[j]?=some x->DG os c x
section
variable {P:Program}{M' M2:Mem}{G':Gh}{os:List AO}{w':World}
variable (he:Env M' G' os w')(hm:∀y u,M' y=some u->M2 y=some u)(hb:∀i,Live os i->∀(o:Nat) u,w'.cell? ⟨G'.blk i,o,none⟩=some u->M2 ⟨G'.blk i,o,none⟩=some u)
include he hm hb
theorem dc1_rd{c:AV}{u:Value}{x:D}(h:VC M' G' os c u)(hd:DC1 os c x):Rd M2 x u:=by
 rcases hd with rfl|⟨id,es,sz,frz,nl,rfl,h1,rfl⟩
 ·exact Rd.mono hm h
 ·obtain⟨_,es',sz',frz',nl',h2,_,h3⟩:=h
  rw[h1] at h2
  cases h2
  rw[h3 rfl]
  have hlv:nl=false->Live os id:=λe=>⟨_,h1,by subst e;rfl⟩
  obtain⟨k1,k2,k3,k4,k5⟩:=he.obj id _ h1
  cases nl with
  |true=>exact Rd.nil
  |false=>
   obtain⟨ca,t,a1,a2,a3,a4,a5,a6⟩:=k5 rfl
   have hcell:∀k,w'.cell? ⟨G'.blk id,k,none⟩=ca[k]?:=λk=>by simp[World.cell?,a1]
   refine Rd.sl es (G'.blk id) 0 (G'.cap id) sz (λi j=>(ca[i*sz+j]?).getD undef) a3 k2 (λi j hi hj=>?_) (λi j e d hi hj=>?_)
   ·have hk:i*sz+j<ca.size:=by rw[a2];exact idx_lt (by omega) hj
    rw[Nat.zero_add]
    refine hb id (hlv rfl) _ _ ?_
    rw[hcell]
    simp[hk]
   ·obtain⟨v,b1,b2⟩:=a5 i j e d hi hj
    simp only[b1,Option.getD_some]
    exact b2.mono hm
theorem dc_rd{c:AV}{u:Value}{x:D}(h:VC M' G' os c u)(hd:DC os c x):Rd M2 x u:=by
 rcases hd with hd|⟨id,es,sz,nl,l,rfl,h1,hl,hr,rfl⟩
 ·exact dc1_rd he hm hb h hd
 ·obtain⟨_,es',sz',nl',h2,_,h3⟩:=h
  rw[h1] at h2
  cases h2
  rw[h3 rfl]
  have hlv:nl=false->Live os id:=λe=>⟨_,h1,by subst e;rfl⟩
  obtain⟨k1,k2,k4,k5⟩:=he.obj id _ h1
  cases nl with
  |true=>exact Rd.nil
  |false=>
   obtain⟨ca,t,a1,a2,a3,a4,a5⟩:=k5 rfl
   have hcell:∀k,w'.cell? ⟨G'.blk id,k,none⟩=ca[k]?:=λk=>by simp[World.cell?,a1]
   have:=Rd.sl (M:=M2) l (G'.blk id) 0 (G'.cap id) sz (λi j=>(ca[i*sz+j]?).getD undef) (by omega) (λe he=>by
    obtain⟨i,hi⟩:=List.mem_iff_getElem?.1 he
    have hlt:=(List.getElem?_eq_some_iff.1 hi).1
    have h0:es[i]?=some es[i]:=List.getElem?_eq_getElem (by omega)
    rw[(hr i _ _ h0 hi).1]
    exact k2 _ (List.mem_of_getElem? h0)) (λi j hi hj=>by
    have hk:i*sz+j<ca.size:=by rw[a2];exact idx_lt (by omega) hj
    rw[Nat.zero_add]
    refine hb id (hlv rfl) _ _ ?_
    rw[hcell]
    simp[hk]) (λi j e d hi hj=>by
    have hlt:=(List.getElem?_eq_some_iff.1 hi).1
    have h0:es[i]?=some es[i]:=List.getElem?_eq_getElem (by omega)
    obtain⟨q1,q2⟩:=hr i _ _ h0 hi
    have hjl:=(List.getElem?_eq_some_iff.1 hj).1
    have h4:es[i][j]?=some es[i][j]:=List.getElem?_eq_getElem (by omega)
    obtain⟨v,b1,b2⟩:=a5 i j _ _ h0 h4
    simp only[b1,Option.getD_some]
    exact dc1_rd he hm hb b2 (q2 j _ _ h4 hj))
   rw[hl] at this
   exact this
theorem dg_vg {a r : AV} {u : Value} (h : VG M' G' os a u) (hd : DG os a r) : VG M2 G' [] r u := by
  rcases hd with ⟨x, h1, rfl⟩ | ⟨cs, xs, rfl, rfl, h1, h2⟩
  · have hv : VC M' G' os a u := by
      cases a with
      | agg cs => rcases h1 with h1 | ⟨_, _, _, _, _, h1, _⟩; · rcases h1 with h1 | ⟨_, _, _, _, _, h1, _⟩ <;> cases h1
                  cases h1
      | _ => exact h
    exact dc_rd he hm hb hv h1
  · obtain ⟨vs, rfl, h3, h4⟩ := h
    refine ⟨vs, rfl, by simpa [h1] using h3, fun j c v hc hv => ?_⟩
    rw [List.getElem?_map] at hc
    obtain ⟨x, hx, rfl⟩ := Option.map_eq_some_iff.1 hc
    have hlt := (List.getElem?_eq_some_iff.1 hx).1
    have h0 : cs[j]? = some cs[j] := List.getElem?_eq_getElem (by omega)
    exact dc_rd he hm hb (h4 j _ v h0 hv) (h2 j _ x h0 hx)
theorem da_va{a r:AV}{u:Value}(h:VA M' G' os a u)(hd:DA os a r):VA M2 G' [] r u:=by
 rcases hd with hd|⟨cs,rs,rfl,rfl,h1,h2⟩
 ·have hv:VG M' G' os a u:=by
   rcases hd with ⟨x,h1,_⟩|⟨cs,xs,rfl,_⟩
   ·rcases h1 with (rfl|⟨_,_,_,_,_,rfl,_⟩)|⟨_,_,_,_,_,rfl,_⟩<;>exact h
   ·exact h
  have h3:=dg_vg he hm hb hv hd
  rcases hd with ⟨x,_,rfl⟩|⟨cs,xs,_,rfl,_⟩<;>exact h3
 ·obtain⟨vs,rfl,h3,h4⟩:=h
  refine⟨vs,rfl,by omega,λj c v hc hv=>?_⟩
  have hlt:=(List.getElem?_eq_some_iff.1 hc).1
  have h0:cs[j]?=some cs[j]:=List.getElem?_eq_getElem (by omega)
  exact dg_vg he hm hb (h4 j _ v h0 hv) (h2 j _ c h0 hc)
end
theorem CallSpec.deep{P:Program}{f:FuncId}{args:List AV}{Q:AV->List AO->Prop}{Q':AV->Prop}(h:CallSpec P f args [] Q)(hq:∀r os,Q r os->∃r',DA os r r'/\Q' r'):CallSpec P f args [] (λr os=>Q' r/\os=[]):=by
 refine⟨h.1,λM G w vs he hl hv=>(h.2 M G w vs he hl hv).mono ?_⟩
 rintro e w' ⟨v,rfl,M',G',r,os,h1,h2,h3,h4⟩
 obtain⟨r',h5,h6⟩:=hq r os h4
 let M2:Mem:=λy=>if w.heap.size<=y.block then w'.cell? y else M y
 have hm:∀y u,M' y=some u->M2 y=some u:=by
  intro y u hy
  by_cases hb:w.heap.size<=y.block
  ·simp only[M2,hb,if_true];exact h1.mem y u hy
  ·simp only[M2,hb,if_false]
   rcases h2.fresh y u hy with h7|h7|⟨i,hi,_⟩
   ·exact h7
   ·exact absurd h7 hb
   ·exact(live_nil hi).elim
 have hb:∀i,Live os i->∀(o:Nat) u,w'.cell? ⟨G'.blk i,o,none⟩=some u->M2 ⟨G'.blk i,o,none⟩=some u:=by
  intro i hi o u hu
  rcases h2.own i hi with h7|⟨j,hj,_⟩
  ·simp only[M2,h7,if_true];exact hu
  ·exact(live_nil hj).elim
 refine⟨v,rfl,M2,G',r',[],⟨λy u hy=>?_,λid o ho=>by simp at ho,λi j hi=>(live_nil hi).elim,λi y u hi=>(live_nil hi).elim,λb hb=>⟨(h1.glb b hb).1,λi hi=>(live_nil hi).elim⟩⟩,
  {sys:=h2.sys,tape:=h2.tape,output:=h2.output,size:=h2.size,frame:=h2.frame,grow:=λy u hy=>hm y u (h2.grow y u hy),fresh:=λy u hy=>?_,own:=λi hi=>(live_nil hi).elim,keep:=λi o ho=>by simp at ho},da_va h1 hm hb h3 h5,h6,rfl⟩
 ·by_cases hb:w.heap.size<=y.block
  ·simp only[M2,hb,if_true] at hy;exact hy
  ·simp only[M2,hb,if_false] at hy;exact h1.mem y u (h2.grow y u hy)
 ·by_cases hb:w.heap.size<=y.block
  ·exact .inr (.inl hb)
  ·simp only[M2,hb,if_false] at hy;exact .inl hy
theorem CallSpec.deepP{P:Program}{f:FuncId}{args:List AV}{Q:AV->List AO->Prop}{r':AV}(h:CallSpec P f args [] Q)(hq:∀r os,Q r os->DA os r r'):Pure P f args r':=
 (h.deep (Q':=λr=>r=r') λr os hh=>⟨r',hq r os hh,rfl⟩)
end Go.Bi
end
section
namespace Go.Bi
open Go
structure LoopN(k:Nat)(P:Program)(n nb:Nat)(cd:IC)(N:Sl->List AO->Prop)(E:Nat->Sl->List AO->Prop)(R:Sl->List AO->Prop)(L:Sl)(os:List AO):Prop where
 h:∀body,cC P n body=some cd->∀c M G w a,Rel n nb c M G os w (ofL L) a->Code.rounds P body (post n nb c (toK ⟨N,E,R⟩)) k a w
section
variable {P:Program}{n nb:Nat}{cd:IC}{N:Sl->List AO->Prop}{E0:Nat->Sl->List AO->Prop}{R:Sl->List AO->Prop}{L:Sl}{os:List AO}
theorem x_rounds(k:Nat)(h:LoopN k P n nb cd N E0 R L os):LoopX P n nb cd N E0 R L os:=by
 refine⟨λcode=>?_⟩
 induction code with
 |loop body ih=>
  intro hc c M G w a hR
  simp only[cC] at hc
  obtain⟨ic',hic,he⟩:=opt_map hc
  cases he
  exact wp_loop_rounds k (h.h body hic c M G w a hR)
 |scope x ih=>
  intro hc c M G w a hR
  simp only[cC] at hc
  refine wp_scope_straight (wp_mono (ih hc c M G w a hR) λe a' w' hp=>?_)
  cases e<;>first|exact hp|exact hp.elim
 |skip=>intro hc;simp[cC] at hc
 |region id ops draw=>intro hc;simp only[cC] at hc;split at hc<;>(try split at hc)<;>(try split at hc)<;>(try split at hc)<;>(try split at hc)<;>cases hc
 |seq x y=>intro hc;simp only[cC] at hc;split at hc<;>cases hc
 |cond cnd x y=>intro hc;simp only[cC] at hc;split at hc<;>cases hc
 |block id x=>intro hc;simp only[cC] at hc;obtain⟨_,_,he⟩:=opt_map hc;cases he
 |exit id=>intro hc;simp[cC] at hc
 |ret=>intro hc;simp[cC] at hc
 |_=>intro hc;simp[cC] at hc
theorem x_round(hm:P.follows .mixedOrders=true){k:Nat}(h:Go (xI P n nb cd (λL' os'=>LoopN k P n nb cd N E0 R L' os') E0 R L os)):LoopN (k+1) P n nb cd N E0 R L os:=by
 refine⟨λbody hb c M G w a hR=>?_⟩
 rw[rounds_succ]
 have h1:=xI_ok (K:=⟨λL' os'=>LoopN k P n nb cd N E0 R L' os',E0,R⟩) (K':=toK ⟨λL' os'=>LoopN k P n nb cd N E0 R L' os',E0,R⟩) ⟨λL' os' h=>⟨L',rfl,h⟩,λi L' os' h=>⟨L',rfl,h⟩,λL' os' h=>⟨L',rfl,h⟩⟩ h
 refine wp_mono (wpI_tri hm body cd hb _ _ _ h1 c M G w a hR) λe a' w' hp=>?_
 cases e with
 |normal=>
  obtain⟨M',G',os',ρ',hR',L',rfl,hk⟩:=hp
  exact hk.h body hb c M' G' w' a' hR'
 |exit id=>exact hp
 |ret=>exact hp
 |_=>exact hp
theorem x_nilcc(id off sz:Nat)(hsz:Nat.blt 0 sz=true){cs:List AV}(ho:os[id]?=some (.cells cs))(hn:cs[off]?=some (.d .nil))
  (k:LoopX P n nb cd N E0 R L ((os++[AO.arr [] sz 0 true]).set id (.cells (cs.set off (.arr os.length 0))))):LoopX P n nb cd N E0 R L os:=by
 have hw:=weak_nilc (n:=n) (nb:=nb) (ρ:=ofL L) (os:=os) id off sz (Nat.lt_of_lt_of_le Nat.zero_lt_one (Nat.le_of_ble_eq_true hsz)) ho hn
 refine⟨λcode hc c M G w a hR=>?_⟩
 obtain⟨M',G',hR'⟩:=hw c M G w a hR
 exact k.h code hc c M' G' w a hR'
end
end Go.Bi
end
section
namespace Go.Bi
open Go
theorem CallSpec.drop{P:Program}{f:FuncId}{args:List AV}{bs:List AO}{Q Q':AV->List AO->Prop}(m:Nat)(hm:Nat.ble bs.length m=true)(h:CallSpec P f args bs Q)
  (hq:∀r os,Q r os->r.bndB m=true/\(os.take m).all (AO.bndB m)=true/\Q' r (os.take m)):CallSpec P f args bs Q':=by
 refine⟨h.1,λM G w vs he hl hv=>(h.2 M G w vs he hl hv).mono ?_⟩
 rintro e w' ⟨v,rfl,M',G',r,os,h1,h2,h3,h4⟩
 obtain⟨q1,q2,q3⟩:=hq r os h4
 exact⟨v,rfl,M',G',r,os.take m,h1.take (λo ho=>bndo_of (List.all_eq_true.1 q2 o ho)),h2.take (Nat.le_of_ble_eq_true hm),h3.take (bnd_of q1),q3⟩
theorem CallSpec.frzP{P:Program}{f:FuncId}{args:List AV}{bs:List AO}{r0:AV}{es:List (List D)}{sz frz:Nat}{id:Nat}{osf:AO->List AO}(k:Nat)(h1:frz<=k)(h2:k<=es.length)
  (hid:(osf (.arr es sz frz false))[id]?=some (.arr es sz frz false)) (hset:(osf (.arr es sz frz false)).set id (.arr es sz k false)=osf (.arr es sz k false))
  (h:CallSpec P f args bs λr os=>r=r0/\os=osf (.arr es sz frz false)):CallSpec P f args bs λr os=>r=r0/\os=osf (.arr es sz k false):=by
 refine⟨h.1,λM G w vs he hl hv=>(h.2 M G w vs he hl hv).mono ?_⟩
 rintro e w' ⟨v,rfl,M',G',r,os,q1,q2,q3,rfl,rfl⟩
 obtain⟨f1,f2,_⟩:=freezeP_ok q1 hid k h1 h2
 rw[hset] at f1 f2
 exact⟨v,rfl,_,G',r,_,f1,q2.trans f2,q3.since f2,rfl,rfl⟩
theorem steps_tail{P:Program}{m m1 t:Machine}(h1:step P m=.next m1)(h:Steps P m t)(hne:t≠m):Steps P m1 t:=by
 obtain⟨n,hn⟩:=h
 cases n with
 |zero=>
  simp[runN] at hn
  exact absurd hn.symm hne
 |succ n=>
  simp only[runN,h1] at hn
  exact⟨n,hn⟩
theorem exitTo_len{id:Nat}:∀{k k':List Item},exitTo id k=some k'->k'.length<=k.length
 |[],k',h=>by simp[exitTo] at h
 |x::k,k',h=>by
  have ih:=λh=>exitTo_len (id:=id) (k:=k) (k':=k') h
  cases x<;>simp only[exitTo] at h<;>(try split at h)<;>first
   |(cases h;simp;done)
   |(have:=ih h;simp only[List.length_cons];omega)
theorem lone_todo{b:Frame}{a a':Act}{k k':List Item}{cs:List Frame}{w w':World}(h:lone (b.at a k) cs w=lone (b.at a' k') cs w'):k=k':=by
 unfold lone at h
 injection h with h1 h2 h3
 have h4:=congrArg Array.toList h2
 simp[Frame.at] at h4
 exact h4.2.1
theorem wp_loop_next{P:Program}{Q:Exit->Act->World->Prop}{a:Act}{w:World}{c:Code}(hQ:∀e a w,Q e a w->e=.normal\/(∃id,e=.exit id)\/e=.ret)
  (h:c.wp P (Exit.then (λa' w'=>(Code.loop c).wp P Q a' w') Q) a w):(Code.loop c).wp P Q a w:=by
 intro b k cs
 obtain⟨e,a1,w1,hq,harr⟩:=h b (.inLoop c::k) cs
 cases e with
 |normal=>
  obtain⟨e2,a2,w2,hq2,harr2⟩:=hq b k cs
  have key:Arrives P (lone (b.at a1 (.code c::.inLoop c::k)) cs w1) b k cs e2 a2 w2:=by
   rcases hQ _ _ _ hq2 with rfl|⟨id,rfl⟩|rfl
   ·refine steps_tail step_loop harr2 (λe=>?_)
    have:=congrArg List.length (lone_todo e)
    simp at this
   ·intro k' hk
    refine steps_tail step_loop (harr2 k' hk) (λe=>?_)
    have:=congrArg List.length (lone_todo e)
    have:=exitTo_len hk
    simp at *
    omega
   ·obtain⟨todo,hs⟩:=harr2
    refine⟨todo,steps_tail step_loop hs (λe=>?_)⟩
    unfold lone at e
    injection e with e1 e2 e3
    have e4:=congrArg Array.toList e2
    simp[Frame.at] at e4
  exact⟨e2,a2,w2,hq2,.of_steps (.one step_loop) (.of_steps (Steps.trans harr (.one step_inLoop)) key)⟩
 |exit id=>exact⟨_,a1,w1,hq,.of_steps (.one step_loop) (.pass (x:=.inLoop c) rfl (λ_ _=>.inl (by simp)) harr)⟩
 |goto l=>exact⟨_,a1,w1,hq,.of_steps (.one step_loop) (.pass (x:=.inLoop c) rfl (λ_ _=>.inl (by simp)) harr)⟩
 |ret=>exact⟨_,a1,w1,hq,.of_steps (.one step_loop) (.pass (x:=.inLoop c) rfl (λ_ _=>.inl (by simp)) harr)⟩
 |panic ch=>exact⟨_,a1,w1,hq,.of_steps (.one step_loop) (.pass (x:=.inLoop c) rfl (λ_ _=>.inl (by simp)) harr)⟩
 |outgrown=>exact⟨_,a1,w1,hq,.of_steps (.one step_loop) (.pass (x:=.inLoop c) rfl (λ_ _=>.inl (by simp)) harr)⟩
theorem post_kinds{n nb:Nat}{c:Ctx}{K:Kt}(e:Exit)(a:Act)(w:World)(h:post n nb c K e a w):e=.normal\/(∃id,e=.exit id)\/e=.ret:=by
 cases e with
 |normal=>exact .inl rfl
 |exit id=>exact .inr (.inl ⟨id,rfl⟩)
 |ret=>exact .inr (.inr rfl)
 |_=>exact h.elim
section
variable {P:Program}{n nb:Nat}{cd:IC}{N:Sl->List AO->Prop}{E0:Nat->Sl->List AO->Prop}{R:Sl->List AO->Prop}{L:Sl}{os:List AO}
theorem x_step(hm:P.follows .mixedOrders=true)(h:Go (xI P n nb cd (λL' os'=>LoopX P n nb cd N E0 R L' os') E0 R L os)):LoopX P n nb cd N E0 R L os:=by
 refine⟨λcode=>?_⟩
 induction code with
 |loop body ih=>
  intro hc c M G w a hR
  have hc0:=hc
  simp only[cC] at hc
  obtain⟨ic',hic,he⟩:=opt_map hc
  cases he
  refine wp_loop_next (λe a w=>post_kinds e a w) ?_
  have h1:=xI_ok (K:=⟨λL' os'=>LoopX P n nb cd N E0 R L' os',E0,R⟩) (K':=toK ⟨λL' os'=>LoopX P n nb cd N E0 R L' os',E0,R⟩) ⟨λL' os' h=>⟨L',rfl,h⟩,λi L' os' h=>⟨L',rfl,h⟩,λL' os' h=>⟨L',rfl,h⟩⟩ h
  refine wp_mono (wpI_tri hm body cd hic _ _ _ h1 c M G w a hR) λe a' w' hp=>?_
  cases e with
  |normal=>
   obtain⟨M',G',os',ρ',hR',L',rfl,hk⟩:=hp
   exact hk.h (.loop body) hc0 c M' G' w' a' hR'
  |exit id=>exact hp
  |ret=>exact hp
  |_=>exact hp
 |scope x ih=>
  intro hc c M G w a hR
  simp only[cC] at hc
  refine wp_scope_straight (wp_mono (ih hc c M G w a hR) λe a' w' hp=>?_)
  cases e<;>first|exact hp|exact hp.elim
 |skip=>intro hc;simp[cC] at hc
 |region id ops draw=>intro hc;simp only[cC] at hc;split at hc<;>(try split at hc)<;>(try split at hc)<;>(try split at hc)<;>(try split at hc)<;>cases hc
 |seq x y=>intro hc;simp only[cC] at hc;split at hc<;>cases hc
 |cond cnd x y=>intro hc;simp only[cC] at hc;split at hc<;>cases hc
 |block id x=>intro hc;simp only[cC] at hc;obtain⟨_,_,he⟩:=opt_map hc;cases he
 |exit id=>intro hc;simp[cC] at hc
 |ret=>intro hc;simp[cC] at hc
 |_=>intro hc;simp[cC] at hc
end
theorem weak_frz{n nb:Nat}{ρ:Rho}{os:List AO}(t:Nat){id len sz frz:Nat}{nl:Bool}{es:List (List D)}(ht:ρ t=.arr id len)(ho:os[id]?=some (.arr es sz frz nl))(hl:len=es.length) :
  Weak n nb ρ os (upd t (.d (if nl then .nil else .sl es)) ρ) (os.set id (.arr es sz es.length nl)):=by
 intro c M G w a hR
 have hv:=hR.tmps t
 rw[ht] at hv
 obtain⟨M1,h1,h2,h3⟩:=frzC_ok hR.env (c:=.arr id len) (x:=if nl then .nil else .sl es) (os1:=os.set id (.arr es sz es.length nl)) (by unfold frzC;dsimp only;rw[ho];dsimp only;rw[if_pos hl]) hv
 exact⟨M1,G,{
  env:=h1,since:=hR.since.trans h2,size:=hR.size,defers:=hR.defers,base:=hR.base
  tmps:=λs=>by
   have hs:=(hR.tmps s).since h2
   unfold upd
   split
   ·rename_i h
    subst h
    exact h3
   ·exact hs}⟩
theorem x_frz{P:Program}{n nb:Nat}{cd:IC}{N:Sl->List AO->Prop}{E0:Nat->Sl->List AO->Prop}{R:Sl->List AO->Prop}{L:Sl}{os:List AO}(t:Nat){id len sz frz:Nat}{nl:Bool}{es:List (List D)}(ht:ofL L t=.arr id len)(ho:os[id]?=some (.arr es sz frz nl))(hl:len=es.length)
  (k:Go (LoopX P n nb cd N E0 R ((t,.d (if nl then .nil else .sl es))::L) (os.set id (.arr es sz es.length nl)))):LoopX P n nb cd N E0 R L os:=by
 have hw:=weak_frz (n:=n) (nb:=nb) (ρ:=ofL L) (os:=os) t ht ho hl
 rw[ofL_cons] at hw
 refine⟨λcode hc c M G w a hR=>?_⟩
 obtain⟨M',G',hR'⟩:=hw c M G w a hR
 exact k.h code hc c M' G' w a hR'
end Go.Bi
end
section
namespace Go.Proofs
open Go.Bi
def vi(u:Nat):List UInt8:=if h:u<128 then [UInt8.ofNat u] else UInt8.ofNat (u % 128+128)::vi (u / 128)
termination_by u
decreasing_by omega
theorem vi_lt{u:Nat}(h:u<128):vi u=[UInt8.ofNat u]:=by rw[vi,dif_pos h]
theorem vi_ge{u:Nat}(h:128<=u):vi u=UInt8.ofNat (u % 128+128)::vi (u / 128):=by rw[vi,dif_neg (by omega)]
theorem vi_pos(u:Nat):0<(vi u).length:=by
 by_cases h:u<128
 ·rw[vi_lt h];simp
 ·rw[vi_ge (by omega)];simp
theorem u8_nat{n:Nat}(h:n<256):(UInt8.ofNat n).toNat=n:=by
 rw[UInt8.toNat_ofNat'];exact Nat.mod_eq_of_lt h
theorem vi_get:∀(i u:Nat),i<(vi u).length->∃c,(vi u)[i]?=some c/\((u / 128 ^ i<128/\c.toNat=u / 128 ^ i/\(vi u).length=i+1/\(i=0\/0<u / 128 ^ i))\/(128<=u / 128 ^ i/\c.toNat=u / 128 ^ i % 128+128/\i+1<(vi u).length))
 |0,u,h=>by
  simp only[Nat.pow_zero,Nat.div_one]
  by_cases hu:u<128
  ·rw[vi_lt hu]
   exact⟨_,rfl,.inl ⟨hu,u8_nat (by omega),rfl,.inl trivial⟩⟩
  ·rw[vi_ge (by omega)]
   refine⟨_,rfl,.inr ⟨by omega,u8_nat (by omega),?_⟩⟩
   have:=vi_pos (u / 128)
   simp only[List.length_cons]
   omega
 |i+1,u,h=>by
  by_cases hu:u<128
  ·rw[vi_lt hu] at h;simp at h
  ·rw[vi_ge (by omega)] at h ⊢
   obtain⟨c,h1,h2⟩:=vi_get i (u / 128) (by simpa using h)
   have e:u / 128 / 128 ^ i=u / 128 ^ (i+1):=by rw[Nat.div_div_eq_div_mul,Nat.pow_succ,Nat.mul_comm]
   rw[e] at h2
   refine⟨c,by simpa using h1,?_⟩
   rcases h2 with ⟨h3,h4,h5,h6⟩|⟨h3,h4,h5⟩
   ·refine .inl ⟨h3,h4,by simp[h5],.inr ?_⟩
    rcases h6 with rfl|h6
    ·simp at e ⊢;omega
    ·exact h6
   ·exact .inr ⟨h3,h4,by simp only[List.length_cons];omega⟩
theorem vi_len_le:∀(k u:Nat),u<128 ^ (k+1)->(vi u).length<=k+1
 |0,u,h=>by rw[vi_lt (by simpa using h)];simp
 |k+1,u,h=>by
  by_cases hu:u<128
  ·rw[vi_lt hu];simp
  ·rw[vi_ge (by omega)]
   have:=vi_len_le k (u / 128) (by rw[Nat.pow_succ] at h;omega)
   simp only[List.length_cons];omega
theorem vi_len{u:Nat}(h:u<18446744073709551616):(vi u).length<=10:=vi_len_le 9 u (Nat.lt_of_lt_of_le h (by decide))
def zz(n:Int):Nat:=if 0<=n then (2*n).toNat else (-2*n-1).toNat
theorem zz_lt{n:Int}(h1:-9223372036854775808<=n)(h2:n<=9223372036854775807):zz n<18446744073709551616:=by
 unfold zz;split<;>omega
theorem wrap_u64{n:Int}(h1:0<=n)(h2:n<18446744073709551616):IntKind.u64.wrap n=n:=by
 simp only[IntKind.wrap,IntKind.signed,IntKind.bits,Bool.false_and,Bool.false_eq_true,if_false]
 exact Int.emod_eq_of_lt h1 (by simpa using h2)
theorem wrap_u8{n:Int}(h1:0<=n)(h2:n<256):IntKind.u8.wrap n=n:=by
 simp only[IntKind.wrap,IntKind.signed,IntKind.bits,Bool.false_and,Bool.false_eq_true,if_false]
 exact Int.emod_eq_of_lt h1 (by simpa using h2)
theorem wrap_u32{n:Int}(h1:0<=n)(h2:n<4294967296):IntKind.u32.wrap n=n:=by
 simp only[IntKind.wrap,IntKind.signed,IntKind.bits,Bool.false_and,Bool.false_eq_true,if_false]
 exact Int.emod_eq_of_lt h1 (by simpa using h2)
theorem wrap_u8m(n:Int):IntKind.u8.wrap n=n % 256:=by
 simp[IntKind.wrap,IntKind.signed,IntKind.bits]
theorem wrap_u64m(n:Int):IntKind.u64.wrap n=n % 18446744073709551616:=by
 simp[IntKind.wrap,IntKind.signed,IntKind.bits]
theorem wrap_u32m(n:Int):IntKind.u32.wrap n=n % 4294967296:=by
 simp[IntKind.wrap,IntKind.signed,IntKind.bits]
theorem wrap_i64{n:Int}(h1:-9223372036854775808<=n)(h2:n<=9223372036854775807):IntKind.i64.wrap n=n:=by
 simp only[IntKind.wrap,IntKind.signed,IntKind.bits,Bool.true_and]
 simp
 omega
theorem bv_ofInt(w:Nat)(n:Nat):BitVec.ofInt w (n:Int)=BitVec.ofNat w n:=by
 apply BitVec.eq_of_toNat_eq
 simp[BitVec.toNat_ofInt,BitVec.toNat_ofNat]
theorem bv_toNat{w n:Nat}(h:n<2 ^ w):(BitVec.ofInt w (n:Int)).toNat=n:=by
 rw[bv_ofInt,BitVec.toNat_ofNat];exact Nat.mod_eq_of_lt h
theorem or_bits{w a b:Nat}(ha:a<2 ^ w)(hb:b<2 ^ w):(BitVec.ofInt w (a:Int)|||BitVec.ofInt w (b:Int)).toNat=a|||b:=by
 rw[BitVec.toNat_or,bv_toNat ha,bv_toNat hb]
theorem and_bits{w a b:Nat}(ha:a<2 ^ w)(hb:b<2 ^ w):(BitVec.ofInt w (a:Int) &&& BitVec.ofInt w (b:Int)).toNat=a &&& b:=by
 rw[BitVec.toNat_and,bv_toNat ha,bv_toNat hb]
theorem xor_bits{w a b:Nat}(ha:a<2 ^ w)(hb:b<2 ^ w):(BitVec.ofInt w (a:Int) ^^^ BitVec.ofInt w (b:Int)).toNat=a ^^^ b:=by
 rw[BitVec.toNat_xor,bv_toNat ha,bv_toNat hb]
theorem or128{a:Nat}(h:a<256):(BitVec.ofInt 8 (a:Int)|||BitVec.ofInt 8 128).toNat=a % 128+128:=by
 have:=or_bits (w:=8) (a:=a) (b:=128) (by omega) (by decide)
 rw[show((128:Nat):Int)=128 from rfl] at this
 rw[this]
 have key:∀a:Fin 256,a.val|||128=a.val % 128+128:=by decide
 exact key ⟨a,h⟩
theorem and127{a:Nat}(h:a<256):(BitVec.ofInt 8 (a:Int) &&& BitVec.ofInt 8 127).toNat=a % 128:=by
 have:=and_bits (w:=8) (a:=a) (b:=127) (by omega) (by decide)
 rw[show((127:Nat):Int)=127 from rfl] at this
 rw[this]
 have key:∀a:Fin 256,a.val &&& 127=a.val % 128:=by decide
 exact key ⟨a,h⟩
theorem and1{a:Nat}(h:a<18446744073709551616):(BitVec.ofInt 64 (a:Int) &&& BitVec.ofInt 64 1).toNat=a % 2:=by
 have:=and_bits (w:=64) (a:=a) (b:=1) (by omega) (by decide)
 rw[show((1:Nat):Int)=1 from rfl] at this
 rw[this]
 exact Nat.and_one_is_mod a
theorem or_above{a x i:Nat}(ha:a<2 ^ i)(hx:a+x*2 ^ i<18446744073709551616):(BitVec.ofInt 64 (a:Int)|||BitVec.ofInt 64 ((x*2 ^ i:Nat):Int)).toNat=a+x*2 ^ i:=by
 rw[or_bits (by omega) (by omega),Nat.or_comm]
 have:=Nat.shiftLeft_add_eq_or_of_lt ha x
 rw[Nat.shiftLeft_eq] at this
 rw[<- this]
 omega
theorem zz_bits{n:Int}(h1:-9223372036854775808<=n)(h2:n<=9223372036854775807) :
  (BitVec.ofInt 64 (IntKind.u64.wrap (IntKind.u64.wrap n*2)) ^^^ BitVec.ofInt 64 (IntKind.u64.wrap (n.fdiv 9223372036854775808))).toNat=zz n:=by
 unfold zz
 split
 ·rename_i h
  rw[wrap_u64 h (by omega),show n.fdiv 9223372036854775808=0 by rw[Int.fdiv_eq_ediv_of_nonneg _ (by decide)];exact Int.ediv_eq_zero_of_lt h (by omega),wrap_u64 (n:=(0:Int)) (by decide) (by decide),wrap_u64 (n:=n*2) (by omega) (by omega)]
  obtain⟨m,rfl⟩:∃m:Nat,n=m:=⟨n.toNat,by omega⟩
  have:=xor_bits (w:=64) (a:=m*2) (b:=0) (by omega) (by decide)
  rw[show((m*2:Nat):Int)=(m:Int)*2 by push_cast;rfl,show((0:Nat):Int)=0 from rfl] at this
  rw[this,Nat.xor_zero]
  omega
 ·rename_i h
  have e1:n.fdiv 9223372036854775808=-1:=by
   rw[Int.fdiv_eq_ediv_of_nonneg _ (by decide)];omega
  have e2:IntKind.u64.wrap (IntKind.u64.wrap n*2)=((18446744073709551616+2*n).toNat:Nat):=by
   rw[wrap_u64m,wrap_u64m];omega
  have e3:IntKind.u64.wrap (-1)=((18446744073709551615:Nat):Int):=by rw[wrap_u64m];rfl
  rw[e1,e2,e3,xor_bits (by omega) (by decide)]
  have key:∀m:Nat,m<2 ^ 64->m ^^^ (2 ^ 64-1)=2 ^ 64-1-m:=by
   intro m hm
   have:=BitVec.toNat_not (x:=BitVec.ofNat 64 m)
   rw[BitVec.toNat_ofNat,Nat.mod_eq_of_lt hm] at this
   rw[<- this,<- BitVec.xor_allOnes,BitVec.toNat_xor,BitVec.toNat_ofNat,Nat.mod_eq_of_lt hm,BitVec.toNat_allOnes]
  have:=key (18446744073709551616+2*n).toNat (by omega)
  rw[show(2 ^ 64-1:Nat)=18446744073709551615 from rfl] at this
  rw[this]
  omega
theorem unzz_bits{n:Int}(h1:-9223372036854775808<=n)(h2:n<=9223372036854775807) :
  IntKind.i64.wrap (BitVec.ofInt 64 (IntKind.i64.wrap (((zz n:Nat):Int).fdiv 2)) ^^^ BitVec.ofInt 64 (IntKind.i64.wrap (0-IntKind.i64.wrap ((zz n % 2:Nat):Int)))).toNat=n:=by
 have hw:∀m:Int,-9223372036854775808<=m->m<=9223372036854775807->IntKind.i64.wrap m=m:=λm a b=>wrap_i64 a b
 have hwn:∀m:Nat,m<18446744073709551616->IntKind.i64.wrap (m:Int)=if m<9223372036854775808 then (m:Int) else (m:Int)-18446744073709551616:=by
  intro m hm
  split
  ·exact hw _ (by omega) (by omega)
  ·simp only[IntKind.wrap,IntKind.signed,IntKind.bits,Bool.true_and]
   simp
   omega
 unfold zz
 split
 ·rename_i h
  have e1:(((2*n).toNat:Nat):Int).fdiv 2=n:=by rw[Int.fdiv_eq_ediv_of_nonneg _ (by decide)];omega
  have e2:(((2*n).toNat % 2:Nat):Int)=0:=by omega
  rw[e1,e2,hw n (by omega) (by omega),show IntKind.i64.wrap (0:Int)=0 from rfl,show(0:Int)-0=0 from rfl,show IntKind.i64.wrap (0:Int)=0 from rfl]
  obtain⟨m,rfl⟩:∃m:Nat,n=m:=⟨n.toNat,by omega⟩
  have:=xor_bits (w:=64) (a:=m) (b:=0) (by omega) (by decide)
  rw[show((0:Nat):Int)=0 from rfl] at this
  rw[this,Nat.xor_zero]
  exact hw _ (by omega) (by omega)
 ·rename_i h
  have e1:(((-2*n-1).toNat:Nat):Int).fdiv 2=-n-1:=by rw[Int.fdiv_eq_ediv_of_nonneg _ (by decide)];omega
  have e2:(((-2*n-1).toNat % 2:Nat):Int)=1:=by omega
  rw[e1,e2,hw (-n-1) (by omega) (by omega),show IntKind.i64.wrap (1:Int)=1 from rfl,show IntKind.i64.wrap (0-1:Int)=-1 from rfl]
  obtain⟨m,hm⟩:∃m:Nat,-n-1=m:=⟨(-n-1).toNat,by omega⟩
  rw[hm]
  have e3:BitVec.ofInt 64 (-1)=BitVec.allOnes 64:=by decide
  rw[e3,BitVec.xor_allOnes,BitVec.toNat_not,bv_toNat (by omega),hwn _ (by omega)]
  split<;>omega
end Go.Proofs
end
section
namespace Go.Proofs
open Go.Bi
abbrev nilS:AV:=.d (.lit (.slice none 0 0))
theorem C.grow_nil:Pure Tryz.prog N.codec_grow [.d .nil] nilS:=by
 refine F.codec_grow.goO mixed rfl ?_
 repeat' first|refine st ?_|refine⟨λ_=>?_,λ_=>?_⟩|fail
 all_goals exact⟨rfl,rfl⟩
theorem C.grow_sl(es:List (List D)):Pure Tryz.prog N.codec_grow [.d (.sl es)] (.full es):=by
 refine F.codec_grow.goO mixed rfl ?_
 repeat' first|refine st ?_|refine⟨λ_=>?_,λ_=>?_⟩|fail
 all_goals exact⟨rfl,rfl⟩
theorem byteL_app(a b:List UInt8):byteL (a++b)=byteL a++byteL b:=by simp[byteL]
theorem byteL_l(a:List UInt8):(byteL a).length=a.length:=by simp[byteL]
theorem byteL_1(a:List UInt8):∀e∈byteL a,e.length=1:=byteL_one a
theorem byteL_c{c:UInt8}{m:Int}(h:(c.toNat:Int)=m):[[D.int .u8 m]]=byteL [c]:=by subst h;rfl
theorem zzE{n:Int}(h1:-9223372036854775808<=n)(h2:n<=9223372036854775807) :
  IntKind.u64.wrap ((BitVec.ofInt IntKind.u64.bits (IntKind.u64.wrap (IntKind.u64.wrap n*2 ^ min (Int.toNat 1) IntKind.u64.bits)) ^^^ BitVec.ofInt IntKind.u64.bits (IntKind.u64.wrap (n.fdiv (2 ^ min (Int.toNat 63) IntKind.i64.bits)))).toNat:Nat)=((zz n:Nat):Int):=by
 have:=zz_bits h1 h2
 have e1:(2:Int) ^ min (Int.toNat 1) IntKind.u64.bits=2:=rfl
 have e2:(2:Int) ^ min (Int.toNat 63) IntKind.i64.bits=9223372036854775808:=rfl
 rw[e1,e2,show IntKind.u64.bits=64 from rfl,this]
 have:=zz_lt h1 h2
 exact wrap_u64 (by omega) (by omega)
theorem contE{m:Nat}:IntKind.u8.wrap ((BitVec.ofInt IntKind.u8.bits (IntKind.u8.wrap ((m:Nat):Int))|||BitVec.ofInt IntKind.u8.bits 128).toNat:Nat)=((m % 128+128:Nat):Int):=by
 have e:IntKind.u8.wrap ((m:Nat):Int)=((m % 256:Nat):Int):=by rw[wrap_u8m];omega
 rw[e,show IntKind.u8.bits=8 from rfl,or128 (by omega)]
 rw[show m % 256 % 128=m % 128 by omega]
 exact wrap_u8 (by omega) (by omega)
theorem C.put_own(s:List UInt8)(hs:s.length<=1073741824)(n:Int)(h1:-9223372036854775808<=n)(h2:n<=9223372036854775807)(frz:Nat) :
  CallSpec Tryz.prog N.codec_put [.arr 0 (byteL s).length,.d (eI n)] [.arr (byteL s) 1 frz false] (λr os=>r=.arr 0 (byteL (s++vi (zz n))).length/\os=[.arr (byteL (s++vi (zz n))) 1 frz false]):=by
 have hu:=zz_lt h1 h2
 have hE:=zzE h1 h2
 obtain⟨u,hz⟩:∃u,u=zz n:=⟨_,rfl⟩
 rw[<- hz] at hu hE ⊢
 clear hz
 refine CallSpec.drop 1 rfl (Q:=λr os=>r=.arr 0 (byteL (s++vi u)).length/\os.take 1=[.arr (byteL (s++vi u)) 1 frz false]) ?_ ?_
 rotate_left
 ·rintro r os ⟨rfl,h⟩
  exact⟨rfl,by rw[h];rfl,rfl,h⟩
 refine F.codec_put.goO mixed rfl ?_
 repeat' first|refine st ?_|refine⟨λ_=>?_,λ_=>?_⟩|fail
 rw[hE]
 have hlen:=vi_len hu
 refine x_loop3 mixed Lt.codec_put_l0 Lk.codec_put_l0 (λ(i:Nat) (w:List UInt8) (m:Nat)=>[.arr 0 (byteL w).length,.d (.int .u64 (m:Int))]) (λi w m=>[.arr (byteL w) 1 frz false]) (λi w m=>i<(vi u).length/\w=s++(vi u).take i/\m=u / 128 ^ i) (λi w m=>(vi u).length-i) 0 s u rfl rfl rfl rfl (λ_ _ _ _=>⟨rfl,rfl⟩) rfl ⟨vi_pos u,by simp,by simp⟩ ?_
 repeat' first|refine st ?_|refine⟨λ_=>?_,λ_=>?_⟩|fail
 intro i w m ⟨i1,i2,i3⟩
 obtain⟨c,hc,hcase⟩:=vi_get i u i1
 rw[<- i3] at hcase
 have hw:w.length<=1073741824+10:=by rw[i2,List.length_append,List.length_take];omega
 have hwl:=byteL_l w
 have hbd:((byteL w).length+1)*1<=140737488355328:=by omega
 have hadd:s++(vi u).take (i+1)=w++[c]:=by rw[i2,List.take_add_one,hc];simp
 have hb2:=byteL_app w [c]
 have hdiv:((m:Nat):Int).fdiv (2 ^ min (Int.toNat 7) IntKind.u64.bits)=((m / 128:Nat):Int):=by
  rw[show(2:Int) ^ min (Int.toNat 7) IntKind.u64.bits=128 from rfl,Int.fdiv_eq_ediv_of_nonneg _ (by decide)]
  omega
 have hcont:=contE (m:=m)
 repeat' first|refine st ?_|refine⟨λ_=>?_,λ_=>?_⟩|fail
 ·rcases hcase with ⟨h3,_⟩|⟨h3,h4,h5⟩
  ·omega
  ·refine⟨i+1,w++[c],m / 128,?_,rfl,?_,by omega,by omega,by rw[hadd],by rw[i3,Nat.div_div_eq_div_mul,Nat.pow_succ]⟩
   ·rw[hdiv,hcont,byteL_c (c:=c) (by rw[h4]),hb2]
   ·rw[hcont,byteL_c (c:=c) (by rw[h4]),hb2];rfl
 ·rcases hcase with ⟨h3,h4,h5,_⟩|⟨h3,_⟩
  ·have hv:s++vi u=w++[c]:=by rw[<- hadd,<- h5,List.take_length]
   rw[wrap_u8 (by omega) (by omega),byteL_c (c:=c) (by rw[h4]),hv,hb2]
   exact⟨rfl,rfl⟩
  ·omega
theorem C.put_nil(n:Int)(h1:-9223372036854775808<=n)(h2:n<=9223372036854775807) :
  CallSpec Tryz.prog N.codec_put [nilS,.d (eI n)] [] (λr os=>r=.arr 0 (byteL (vi (zz n))).length/\os=[.arr (byteL (vi (zz n))) 1 0 false]):=by
 have hu:=zz_lt h1 h2
 have hE:=zzE h1 h2
 obtain⟨u,hz⟩:∃u,u=zz n:=⟨_,rfl⟩
 rw[<- hz] at hu hE ⊢
 clear hz
 refine F.codec_put.goO mixed rfl ?_
 repeat' first|refine st ?_|refine⟨λ_=>?_,λ_=>?_⟩|fail
 rw[hE]
 have hlen:=vi_len hu
 refine x_step mixed ?_
 repeat' first|((with_reducible apply k_lk2))|refine st ?_|refine⟨λ_=>?_,λ_=>?_⟩|fail
 ·rename_i hge
  have hge:128<=u:=by omega
  have hdiv:((u:Nat):Int).fdiv (2 ^ min (Int.toNat 7) IntKind.u64.bits)=((u / 128:Nat):Int):=by
   rw[show(2:Int) ^ min (Int.toNat 7) IntKind.u64.bits=128 from rfl,Int.fdiv_eq_ediv_of_nonneg _ (by decide)]
   omega
  have hcont:=contE (m:=u)
  have hv:=vi_ge hge
  obtain⟨c,hc⟩:∃c,c=UInt8.ofNat (u % 128+128):=⟨_,rfl⟩
  have hcn:c.toNat=u % 128+128:=by rw[hc];exact u8_nat (by omega)
  rw[<- hc] at hv
  rw[hcont,hdiv,byteL_c (c:=c) (by rw[hcn])]
  have hq:u / 128<18446744073709551616:=by omega
  have hlen2:(vi (u / 128)).length<=10:=by rw[hv] at hlen;simp at hlen;omega
  obtain⟨q,hqd⟩:∃q,q=u / 128:=⟨_,rfl⟩
  rw[<- hqd] at hv hq hlen2 ⊢
  rw[hv]
  clear hv hlen hE hdiv hcont hge
  refine x_loop3 mixed Lt.codec_put_l0 Lk.codec_put_l0 (λ(i:Nat) (w:List UInt8) (m:Nat)=>[.arr 0 (byteL w).length,.d (.int .u64 (m:Int))]) (λi w m=>[.arr (byteL w) 1 0 false]) (λi w m=>i<(vi q).length/\w=[c]++(vi q).take i/\m=q / 128 ^ i) (λi w m=>(vi q).length-i) 0 [c] q rfl rfl rfl rfl (λ_ _ _ _=>⟨rfl,rfl⟩) rfl ⟨vi_pos q,by simp,by simp⟩ ?_
  repeat' first|refine st ?_|refine⟨λ_=>?_,λ_=>?_⟩|fail
  intro i w m ⟨i1,i2,i3⟩
  obtain⟨c2,hc2,hcase⟩:=vi_get i q i1
  rw[<- i3] at hcase
  have hw:w.length<=11:=by rw[i2,List.length_append,List.length_take];simp;omega
  have hwl:=byteL_l w
  have hbd:((byteL w).length+1)*1<=140737488355328:=by omega
  have hadd:[c]++(vi q).take (i+1)=w++[c2]:=by rw[i2,List.take_add_one,hc2];simp
  have hb2:=byteL_app w [c2]
  have hdiv:((m:Nat):Int).fdiv (2 ^ min (Int.toNat 7) IntKind.u64.bits)=((m / 128:Nat):Int):=by
   rw[show(2:Int) ^ min (Int.toNat 7) IntKind.u64.bits=128 from rfl,Int.fdiv_eq_ediv_of_nonneg _ (by decide)]
   omega
  have hcont:=contE (m:=m)
  repeat' first|((with_reducible apply k_lk2))|refine st ?_|refine⟨λ_=>?_,λ_=>?_⟩|fail
  ·rcases hcase with ⟨h3,_⟩|⟨h3,h4,h5⟩
   ·omega
   ·refine⟨i+1,w++[c2],m / 128,?_,rfl,?_,by omega,by omega,by rw[hadd],by rw[i3,Nat.div_div_eq_div_mul,Nat.pow_succ]⟩
    ·rw[hdiv,hcont,byteL_c (c:=c2) (by rw[h4]),hb2]
    ·rw[hcont,byteL_c (c:=c2) (by rw[h4]),hb2];rfl
  ·rcases hcase with ⟨h3,h4,h5,_⟩|⟨h3,_⟩
   ·have hv:c::vi q=w++[c2]:=by rw[<- hadd,<- h5,List.take_length];rfl
    rw[wrap_u8 (by omega) (by omega),byteL_c (c:=c2) (by rw[h4]),hv,hb2]
    exact⟨rfl,rfl⟩
   ·omega
 ·rename_i hlt
  have hlt:u<128:=by omega
  have hcn:(UInt8.ofNat u).toNat=u:=u8_nat (by omega)
  rw[wrap_u8 (by omega) (by omega),byteL_c (c:=UInt8.ofNat u) (by rw[hcn]),vi_lt hlt]
  exact⟨rfl,rfl⟩
def encI(n:Int):List UInt8:=vi (zz n)
def encT(s:List UInt8):List UInt8:=encI s.length++s
def encP(a b:Int):List UInt8:=encI a++encI b
def I64(n:Int):Prop:=-9223372036854775808<=n/\n<=9223372036854775807
theorem encI_len{n:Int}(h:I64 n):(encI n).length<=10:=vi_len (zz_lt h.1 h.2)
theorem C.PutInt(n:Int)(h:I64 n):Pure Tryz.prog N.codec_PutInt [.d .nil,.d (eI n)] (.d (.sl (byteL (encI n)))):=by
 have h1:=C.put_nil n h.1 h.2
 have hg:=C.grow_nil
 unfold encI
 obtain⟨z,hz⟩:∃z,z=byteL (vi (zz n)):=⟨_,rfl⟩
 rw[<- hz] at h1 ⊢
 refine F.codec_PutInt.go mixed rfl ?_
 repeat' first|refine st ?_|((with_reducible first|apply k_nc|apply k_cs);(·exact h1);(try rintro _ _ ⟨rfl,rfl⟩))|((with_reducible apply k_pr);(·exact h1))|refine⟨λ_=>?_,λ_=>?_⟩|fail
 all_goals exact rfl
theorem C.PutText(s:List UInt8)(hs:s.length<=1073741824):Pure Tryz.prog N.codec_PutText [.d .nil,.d (.str s)] (.d (.sl (byteL (encT s)))):=by
 have h1:=C.put_nil s.length (by omega) (by omega)
 have hg:=C.grow_nil
 have hl:=encI_len (n:=s.length) ⟨by omega,by omega⟩
 rw[encT,byteL_app]
 unfold encI at hl ⊢
 have hl2:=byteL_l (vi (zz s.length))
 have hl3:=byteL_l s
 have hm:=byteL_1 s
 obtain⟨z,hz⟩:∃z,z=byteL (vi (zz s.length)):=⟨_,rfl⟩
 rw[<- hz] at h1 hl2 ⊢
 have hbd:(z.length+(byteL s).length)*1<=140737488355328/\z.length+(byteL s).length<=9223372036854775807:=by omega
 refine F.codec_PutText.go mixed rfl ?_
 repeat' first|refine st ?_|((with_reducible first|apply k_nc|apply k_cs);(·exact h1);(try rintro _ _ ⟨rfl,rfl⟩))|((with_reducible apply k_pr);(·exact h1))|refine⟨λ_=>?_,λ_=>?_⟩|fail
 all_goals (cases(byteL s).isEmpty<;>rfl)
theorem C.PutPeriod(a b:Int)(ha:I64 a)(hb:I64 b):Pure Tryz.prog N.codec_PutPeriod [.d .nil,eP a b] (.d (.sl (byteL (encP a b)))):=by
 have h1:=C.put_nil a ha.1 ha.2
 have hg:=C.grow_nil
 have hl:=encI_len ha
 unfold encI at hl
 have h2:=C.put_own (vi (zz a)) (by omega) b hb.1 hb.2 0
 rw[encP]
 unfold encI
 obtain⟨z,hz⟩:∃z,z=byteL (vi (zz a)):=⟨_,rfl⟩
 obtain⟨y,hy⟩:∃z,z=byteL (vi (zz a)++vi (zz b)):=⟨_,rfl⟩
 rw[<- hz] at h1 h2
 rw[<- hy] at h2 ⊢
 refine F.codec_PutPeriod.go mixed rfl ?_
 repeat' first|refine st ?_|refine⟨λ_=>?_,λ_=>?_⟩|fail
 all_goals exact rfl
end Go.Proofs
end
section
namespace Go.Proofs
open Go.Bi
theorem byteL_drop(s:List UInt8)(n:Nat):byteL (s.drop n)=(byteL s).drop n:=by simp[byteL]
theorem byteL_get{s:List UInt8}{i:Nat}{c:UInt8}(h:s[i]?=some c):(byteL s)[i]?=some [.int .u8 c.toNat]:=by simp[byteL,h]
theorem cutE(s:List UInt8)(a:Nat):((byteL s).drop (Int.toNat ↑a)).take (Int.toNat ↑(byteL s).length-Int.toNat ↑a)=byteL (s.drop a):=by
 rw[byteL_drop,Int.toNat_natCast,Int.toNat_natCast]
 apply List.take_of_length_le
 rw[List.length_drop]
 exact Nat.le_refl _
theorem accE{A c i:Nat}(hA:A<128 ^ i)(hc:c<256)(hi:i<=9)(ht:A+c % 128*128 ^ i<18446744073709551616) :
  IntKind.u64.wrap ((BitVec.ofInt IntKind.u64.bits (A:Int)|||BitVec.ofInt IntKind.u64.bits (IntKind.u64.wrap (IntKind.u64.wrap (IntKind.u8.wrap ((BitVec.ofInt IntKind.u8.bits (c:Int) &&& BitVec.ofInt IntKind.u8.bits 127).toNat:Nat))*2 ^ min (Int.toNat (7*(i:Int))) IntKind.u64.bits))).toNat:Nat)=((A+c % 128*128 ^ i:Nat):Int):=by
 rw[show IntKind.u8.bits=8 from rfl,show IntKind.u64.bits=64 from rfl,and127 hc,wrap_u8 (by omega) (by omega),wrap_u64 (n:=((c % 128:Nat):Int)) (by omega) (by omega)]
 have e1:min (Int.toNat (7*(i:Int))) 64=7*i:=by omega
 have e2:(128:Nat) ^ i=2 ^ (7*i):=by rw[Nat.pow_mul]
 rw[e2] at hA
 rw[e1,e2]
 have e3:((c % 128:Nat):Int)*2 ^ (7*i)=((c % 128*2 ^ (7*i):Nat):Int):=by push_cast;rfl
 rw[e2] at ht
 rw[e3,wrap_u64 (n:=((c % 128*2 ^ (7*i):Nat):Int)) (by omega) (by omega),or_above hA ht]
 exact wrap_u64 (by omega) (by omega)
theorem unE{n:Int}(h:I64 n):IntKind.i64.wrap ((BitVec.ofInt IntKind.i64.bits (IntKind.i64.wrap (((zz n:Nat):Int).fdiv (2 ^ min (Int.toNat 1) IntKind.u64.bits))) ^^^ BitVec.ofInt IntKind.i64.bits (IntKind.i64.wrap (0-IntKind.i64.wrap (IntKind.u64.wrap ((BitVec.ofInt IntKind.u64.bits ((zz n:Nat):Int) &&& BitVec.ofInt IntKind.u64.bits 1).toNat:Nat))))).toNat:Nat)=n:=by
 have hz:=zz_lt h.1 h.2
 rw[show IntKind.i64.bits=64 from rfl,show IntKind.u64.bits=64 from rfl,show(2:Int) ^ min (Int.toNat 1) 64=2 from rfl,and1 hz,wrap_u64 (by omega) (by omega)]
 exact unzz_bits h.1 h.2
theorem C.codec_Int(B:List UInt8)(hB:B.length<=1073741824)(a:Nat)(n:Int)(h:I64 n)(post:List UInt8)(hd:B.drop a=encI n++post) :
    Pure Tryz.prog N.codec_Int [.d (.sl (byteL B)),.d (eI a)] (.tup [.d (eI n),.d (eI (a+(encI n).length:Nat)),.d (eI 0)]):=by
  have hu:=zz_lt h.1 h.2
  have hfin:=unE h
  unfold encI at hd ⊢
  obtain⟨u,hz⟩:∃u,u=zz n:=⟨_,rfl⟩
  rw[<- hz] at hu hd hfin ⊢
  clear hz
  have hpos:=vi_pos u
  have hlen:=vi_len hu
  have hla:(vi u).length<=B.length-a:=by
    have:=congrArg List.length hd
    rw[List.length_drop,List.length_append] at this
    omega
  have hbl:=byteL_l B
  have hb1:=byteL_1 B
  have hcut:=cutE B a
  have hlb:(byteL (B.drop a)).length=B.length-a:=by rw[byteL_l,List.length_drop]
  have hlb1:=byteL_1 (B.drop a)
  refine F.codec_Int.go mixed rfl ?_
  repeat' first|refine st ?_|refine⟨λ_=>?_,λ_=>?_⟩|fail
  rw[hcut]
  refine x_loop2 mixed Lt.codec_Int_l0 Lk.codec_Int_l0 (λ(i A:Nat)=>[.d (.int .u64 (A:Int)),.d (eI i)]) (λi A=>[]) (λi A=>i<(vi u).length/\A=u % 128 ^ i) (λi A=>(vi u).length-i) 0 0 rfl rfl rfl rfl (λ_ _ _=>⟨rfl,rfl⟩) rfl ⟨hpos,by simp[Nat.mod_one]⟩ ?_
  repeat' first|refine st ?_|refine⟨λ_=>?_,λ_=>?_⟩|fail
  intro i A ⟨i1,i2⟩
  obtain⟨c,hc,hcase⟩:=vi_get i u i1
  have hget:(B.drop a)[i]?=some c:=by rw[hd,List.getElem?_append_left i1];exact hc
  have hget2:=byteL_get hget
  have hp:0<128 ^ i:=Nat.pow_pos (by decide)
  have hA:A<128 ^ i:=by rw[i2];exact Nat.mod_lt _ hp
  have hc256:c.toNat<256:=c.toNat_lt
  have hdm:=Nat.div_add_mod u (128 ^ i)
  have hms:=Nat.mod_pow_succ (x:=u) (b:=128) (k:=i)
  have hle:=Nat.mod_le u (128 ^ (i+1))
  have hi9:i<=9:=by omega
  have ht:(c.toNat<128/\A+c.toNat % 128*128 ^ i=u)\/(128<=c.toNat/\A+c.toNat % 128*128 ^ i=u % 128 ^ (i+1)):=by
    rcases hcase with ⟨q1,q2,q3,q4⟩|⟨q1,q2,q3⟩
    · refine .inl ⟨by omega,?_⟩
      rw[i2,q2,Nat.mod_eq_of_lt q1,Nat.mul_comm];omega
    · refine .inr ⟨by omega,?_⟩
      rw[i2,q2,hms,show(u / 128 ^ i % 128+128) % 128=u / 128 ^ i % 128 by omega,Nat.mul_comm]
  have hstep:=accE hA hc256 hi9 (by omega)
  have h9:i=9->c.toNat<=1:=by
    rintro rfl
    have e:u / 128 ^ 9<2:=by
      rw[show(128:Nat) ^ 9=9223372036854775808 from by decide]
      omega
    omega
  have h0:0<i->0<c.toNat:=by
    intro h0
    rcases hcase with ⟨q1,q2,q3,q4⟩|⟨q1,q2,q3⟩<;>omega
  obtain⟨m,hm⟩:∃m,m=c.toNat:=⟨_,rfl⟩
  rw[<- hm] at hget2 hcase hc256 ht hstep h9 h0
  clear hm hget hc hd
  have hilb:i<(byteL (B.drop a)).length:=by omega
  obtain⟨Z,hZ⟩:∃z,z=byteL (B.drop a):=⟨_,rfl⟩
  rw[<- hZ] at hget2 hlb hlb1 hilb ⊢
  repeat' first|refine st ?_|refine⟨λ_=>?_,λ_=>?_⟩|fail
  all_goals first
    | (have e1 : A + m % 128 * 128 ^ i = u := by omega
       have e2:(vi u).length=i+1:=by omega
       have e3:(a:Int)+i+1=((a+(i+1):Nat):Int):=by omega
       rw[hstep,e1,hfin,e2,e3])
    |exact⟨i+1,A+m % 128*128 ^ i,by rw[hstep];rfl,rfl,rfl,by omega,by omega,by omega⟩
end Go.Proofs
end
section
namespace Go.Proofs
open Go.Bi
def encV(v:Vl):List UInt8:=if v.k=1 then 1::encI v.n else if v.k=2 then 2::encT v.s else if v.k=3 then [UInt8.ofNat (3+v.n.toNat)] else [0]
theorem vValid_k{v:Vl}(h:vValid v=true):(v.k=0/\v.n=0/\v.s=[])\/(v.k=1/\v.s=[]/\-1125899906842624<=v.n/\v.n<=1125899906842624)\/(v.k=2/\v.n=0/\v.s.length<=200/\prB v.s=true)\/(v.k=3/\v.s=[]/\(v.n=0\/v.n=1)):=by
 unfold vValid at h
 split at h
 ·exact .inl ⟨‹_›,of_decide_eq_true h⟩
 ·split at h
  ·exact .inr (.inl ⟨‹_›,of_decide_eq_true h⟩)
  ·split at h
   ·rw[Bool.and_eq_true] at h
    have:=of_decide_eq_true h.1
    exact .inr (.inr (.inl ⟨‹_›,this.1,this.2,h.2⟩))
   ·split at h
    ·exact .inr (.inr (.inr ⟨‹_›,of_decide_eq_true h⟩))
    ·cases h
theorem byteL_cons(c:UInt8)(s:List UInt8):byteL (c::s)=[.int .u8 c.toNat]::byteL s:=rfl
theorem boolE{n:Int}(h:n=0\/n=1):IntKind.u8.wrap (3+IntKind.i64.wrap ((BitVec.ofInt IntKind.i64.bits n &&& BitVec.ofInt IntKind.i64.bits 1).toNat:Nat))=((UInt8.ofNat (3+n.toNat)).toNat:Int):=by
 rcases h with rfl|rfl<;>rfl
theorem boolE2{n:Int}(h:n=0\/n=1):IntKind.u8.wrap (IntKind.i64.wrap (3+IntKind.i64.wrap ((BitVec.ofInt IntKind.i64.bits n &&& BitVec.ofInt IntKind.i64.bits 1).toNat:Nat)))=((UInt8.ofNat (3+n.toNat)).toNat:Int):=by
 rcases h with rfl|rfl<;>rfl
theorem C.PutValue_sl(s:List UInt8)(hs:s.length<=1073741000)(v:Vl)(hv:vValid v=true):Pure Tryz.prog N.codec_PutValue [.d (.sl (byteL s)),eV v] (.d (.sl (byteL (s++encV v)))):=by
 have hg:=C.grow_sl (byteL s)
 have hl:=byteL_l s
 have hm:=byteL_1 s
 rw[byteL_app]
 rcases vValid_k hv with ⟨h1,h2,h3⟩|⟨h1,h2,h3,h4⟩|⟨h1,h2,h3,h4⟩|⟨h1,h2,h3⟩
 ·obtain⟨k,n,t⟩:=v
  simp only at h1 h2 h3
  subst h1;subst h2;subst h3
  rw[show byteL (encV ⟨0,0,[]⟩)=[[.int .u8 0]] from rfl]
  obtain⟨z,hz⟩:∃z,z=byteL s:=⟨_,rfl⟩
  rw[<- hz] at hg hl hm ⊢
  refine F.codec_PutValue.go mixed rfl ?_
  repeat' first|((with_reducible apply k_lk2))|refine st ?_|refine⟨λ_=>?_,λ_=>?_⟩|fail
  all_goals exact rfl
 ·obtain⟨k,n,t⟩:=v
  simp only at h1 h2 h3 h4
  subst h1;subst h2
  have hi:I64 n:=⟨by omega,by omega⟩
  have hput:=C.put_own (s++[1]) (by simp only[List.length_append,List.length_cons,List.length_nil];omega) n hi.1 hi.2 0
  rw[show byteL (encV ⟨1,n,[]⟩)=byteL ([1]++vi (zz n)) from rfl]
  rw[List.append_assoc,byteL_app s [1],byteL_app s ([1]++vi (zz n)),show byteL [1]=[[.int .u8 1]] from rfl] at hput
  obtain⟨y,hy⟩:∃y,y=byteL ([1]++vi (zz n)):=⟨_,rfl⟩
  rw[<- hy] at hput ⊢
  clear hy
  obtain⟨z,hz⟩:∃z,z=byteL s:=⟨_,rfl⟩
  rw[<- hz] at hg hl hm hput ⊢
  refine F.codec_PutValue.go mixed rfl ?_
  repeat' first|((with_reducible apply k_lk2))|refine st ?_|refine⟨λ_=>?_,λ_=>?_⟩|fail
  all_goals exact rfl
 ·obtain⟨k,n,t⟩:=v
  simp only at h1 h2 h3 h4
  subst h1;subst h2
  have hput:=C.put_own (s++[2]) (by simp only[List.length_append,List.length_cons,List.length_nil];omega) t.length (by omega) (by omega) 0
  rw[show encV ⟨2,0,t⟩=([2]++vi (zz t.length))++t from rfl,byteL_app ([2]++vi (zz t.length)) t]
  rw[List.append_assoc,byteL_app s [2],byteL_app s ([2]++vi (zz t.length)),show byteL [2]=[[.int .u8 2]] from rfl] at hput
  have hyl:=byteL_l ([2]++vi (zz t.length))
  have hvl:=encI_len (n:=t.length) ⟨by omega,by omega⟩
  unfold encI at hvl
  rw[List.length_append,List.length_cons,List.length_nil] at hyl
  have htl:=byteL_l t
  have htm:=byteL_1 t
  obtain⟨y,hy⟩:∃y,y=byteL ([2]++vi (zz t.length)):=⟨_,rfl⟩
  rw[<- hy] at hput hyl ⊢
  clear hy
  obtain⟨z,hz⟩:∃z,z=byteL s:=⟨_,rfl⟩
  rw[<- hz] at hg hl hm hput ⊢
  have hbd:((z++y).length+(byteL t).length)*1<=140737488355328/\(z++y).length+(byteL t).length<=9223372036854775807:=by
   rw[List.length_append]
   omega
  show Pure Tryz.prog N.codec_PutValue [.d (.sl (z)),.agg [.d (eI 2),.d (eI 0),.d (.str t)]] _
  refine F.codec_PutValue.go mixed rfl ?_
  repeat' first|((with_reducible apply k_lk2))|refine st ?_|refine⟨λ_=>?_,λ_=>?_⟩|fail
  all_goals (rw[<- List.append_assoc];cases(byteL t).isEmpty<;>rfl)
 ·obtain⟨k,n,t⟩:=v
  simp only at h1 h2 h3
  subst h1;subst h2
  have hbe:=boolE h3
  have hbe2:=boolE2 h3
  rw[show byteL (encV ⟨3,n,[]⟩)=[[.int .u8 (UInt8.ofNat (3+n.toNat)).toNat]] from rfl]
  obtain⟨z,hz⟩:∃z,z=byteL s:=⟨_,rfl⟩
  rw[<- hz] at hg hl hm ⊢
  show Pure Tryz.prog N.codec_PutValue [.d (.sl (z)),.agg [.d (eI 3),.d (eI n),.d (.str [])]] _
  refine F.codec_PutValue.go mixed rfl ?_
  repeat' first|((with_reducible apply k_lk2))|refine st ?_|refine⟨λ_=>?_,λ_=>?_⟩|fail
  all_goals (rw[hbe2];rfl)
theorem C.PutValue_nil(v:Vl)(hv:vValid v=true):Pure Tryz.prog N.codec_PutValue [.d .nil,eV v] (.d (.sl (byteL (encV v)))):=by
 have hg:=C.grow_nil
 rcases vValid_k hv with ⟨h1,h2,h3⟩|⟨h1,h2,h3,h4⟩|⟨h1,h2,h3,h4⟩|⟨h1,h2,h3⟩
 ·obtain⟨k,n,t⟩:=v
  simp only at h1 h2 h3
  subst h1;subst h2;subst h3
  rw[show byteL (encV ⟨0,0,[]⟩)=[[.int .u8 0]] from rfl]
  refine F.codec_PutValue.go mixed rfl ?_
  repeat' first|((with_reducible apply k_lk2))|refine st ?_|refine⟨λ_=>?_,λ_=>?_⟩|fail
  all_goals exact rfl
 ·obtain⟨k,n,t⟩:=v
  simp only at h1 h2 h3 h4
  subst h1;subst h2
  have hi:I64 n:=⟨by omega,by omega⟩
  have hput:=C.put_own ([1]) (by simp only[List.length_append,List.length_cons,List.length_nil];omega) n hi.1 hi.2 0
  rw[show byteL (encV ⟨1,n,[]⟩)=byteL ([1]++vi (zz n)) from rfl]
  rw[show byteL [1]=[[.int .u8 1]] from rfl] at hput
  obtain⟨y,hy⟩:∃y,y=byteL ([1]++vi (zz n)):=⟨_,rfl⟩
  rw[<- hy] at hput ⊢
  clear hy
  refine F.codec_PutValue.go mixed rfl ?_
  repeat' first|((with_reducible apply k_lk2))|refine st ?_|refine⟨λ_=>?_,λ_=>?_⟩|fail
  all_goals exact rfl
 ·obtain⟨k,n,t⟩:=v
  simp only at h1 h2 h3 h4
  subst h1;subst h2
  have hput:=C.put_own ([2]) (by simp only[List.length_append,List.length_cons,List.length_nil];omega) t.length (by omega) (by omega) 0
  rw[show encV ⟨2,0,t⟩=([2]++vi (zz t.length))++t from rfl,byteL_app ([2]++vi (zz t.length)) t]
  rw[show byteL [2]=[[.int .u8 2]] from rfl] at hput
  have hyl:=byteL_l ([2]++vi (zz t.length))
  have hvl:=encI_len (n:=t.length) ⟨by omega,by omega⟩
  unfold encI at hvl
  rw[List.length_append,List.length_cons,List.length_nil] at hyl
  have htl:=byteL_l t
  have htm:=byteL_1 t
  obtain⟨y,hy⟩:∃y,y=byteL ([2]++vi (zz t.length)):=⟨_,rfl⟩
  rw[<- hy] at hput hyl ⊢
  clear hy
  have hbd:((y).length+(byteL t).length)*1<=140737488355328/\(y).length+(byteL t).length<=9223372036854775807:=by
   skip
   omega
  show Pure Tryz.prog N.codec_PutValue [.d .nil,.agg [.d (eI 2),.d (eI 0),.d (.str t)]] _
  refine F.codec_PutValue.go mixed rfl ?_
  repeat' first|((with_reducible apply k_lk2))|refine st ?_|refine⟨λ_=>?_,λ_=>?_⟩|fail
  all_goals (cases(byteL t).isEmpty<;>rfl)
 ·obtain⟨k,n,t⟩:=v
  simp only at h1 h2 h3
  subst h1;subst h2
  have hbe:=boolE h3
  have hbe2:=boolE2 h3
  rw[show byteL (encV ⟨3,n,[]⟩)=[[.int .u8 (UInt8.ofNat (3+n.toNat)).toNat]] from rfl]
  show Pure Tryz.prog N.codec_PutValue [.d .nil,.agg [.d (eI 3),.d (eI n),.d (.str [])]] _
  refine F.codec_PutValue.go mixed rfl ?_
  repeat' first|((with_reducible apply k_lk2))|refine st ?_|refine⟨λ_=>?_,λ_=>?_⟩|fail
  all_goals (rw[hbe2];rfl)
end Go.Proofs
end
section
namespace Go.Proofs
open Go.Bi
def encVs(l:List Vl):List UInt8:=l.flatMap encV
def encR(l:List Vl):List UInt8:=encI l.length++encVs l
theorem encV_len{v:Vl}(h:vValid v=true):(encV v).length<=211:=by
 rcases vValid_k h with ⟨h1,h2,h3⟩|⟨h1,h2,h3,h4⟩|⟨h1,h2,h3,h4⟩|⟨h1,h2,h3⟩<;>simp[encV,h1]
 ·have:=encI_len (n:=v.n) ⟨by omega,by omega⟩;omega
 ·have:=encI_len (n:=v.s.length) ⟨by omega,by omega⟩
  simp only[encT,List.length_append];omega
theorem encVs_len:∀{l:List Vl},(∀v∈l,vValid v=true)->(encVs l).length<=211*l.length
 |[],_=>Nat.le_refl _
 |v::l,h=>by
  have h1:=encV_len (h v (by simp))
  have h2:=encVs_len (l:=l) λx hx=>h x (by simp[hx])
  simp only[encVs,List.flatMap_cons,List.length_append,List.length_cons] at *
  omega
theorem encVs_take{l:List Vl}{i:Nat}{v:Vl}(h:l[i]?=some v):encVs (l.take (i+1))=encVs (l.take i)++encV v:=by
 simp[encVs,List.take_add_one,h]
theorem C.PutRow(l:List Vl)(hl:l.length<=1048576)(hv:∀v∈l,vValid v=true)(d:D)(hd:SlD d (eVs l)):Pure Tryz.prog N.codec_PutRow [.d .nil,.d d] (.d (.sl (byteL (encR l)))):=by
 have hg:=C.grow_nil
 have h1:=C.put_nil l.length (by omega) (by omega)
 have hil:=encI_len (n:=l.length) ⟨by omega,by omega⟩
 have hP:=λ(s:List UInt8) (hs:s.length<=1073741000) (v:Vl) (hv:vValid v=true)=>C.PutValue_sl s hs v hv
 have e1:=eVs_len l
 have e2:=eVs_mem l
 have e3:=λi v=>@eVs_get l i v
 obtain⟨es,hes⟩:∃z,z=eVs l:=⟨_,rfl⟩
 rw[<- hes] at hd e1 e2 e3
 clear hes
 unfold encR encI
 unfold encI at hil
 obtain⟨q,hq⟩:∃q,q=vi (zz l.length):=⟨_,rfl⟩
 rw[<- hq] at h1 hil ⊢
 clear hq
 rw[<- e1] at h1
 refine F.codec_PutRow.go mixed rfl ?_
 repeat' first|refine st ?_|((with_reducible apply go_i);conv=>whnf)|((with_reducible first|apply k_nc|apply k_cs);(·exact h1);(try rintro _ _ ⟨rfl,rfl⟩))|((with_reducible apply k_pr);(·exact h1))|refine⟨λ_=>?_,λ_=>?_⟩|fail
 refine x_frz 0 rfl rfl rfl ?_
 repeat' first|refine st ?_|((with_reducible apply go_i);conv=>whnf)|refine⟨λ_=>?_,λ_=>?_⟩|fail
 refine x_loop2 mixed Lt.codec_PutRow_l0 Lk.codec_PutRow_l0 (λ(i:Nat) (w:List UInt8)=>[.d (.sl (byteL w)),.d (eI i)]) (λi w=>[.arr (byteL q) 1 (byteL q).length false]) (λi w=>i<=l.length/\w=q++encVs (l.take i)) (λi w=>l.length-i) 0 q rfl rfl rfl rfl (λ_ _ _=>⟨rfl,rfl⟩) rfl ⟨by omega,by simp[encVs]⟩ ?_
 repeat' first|refine st ?_|((with_reducible apply go_i);conv=>whnf)|refine⟨λ_=>?_,λ_=>?_⟩|fail
 intro i w ⟨i1,i2⟩
 have hlen:w.length<=1073741000:=by
  rw[i2,List.length_append]
  have h3:=encVs_len (l:=l.take i) λv hm=>hv v (List.mem_of_mem_take hm)
  rw[List.length_take] at h3
  have:min i l.length<=1048576:=by omega
  omega
 by_cases hi:i<l.length
 ·obtain⟨v,hvi⟩:∃v,l[i]?=some v:=⟨_,List.getElem?_eq_getElem hi⟩
  have hget:=e3 i v hvi
  have hc:=hP w hlen v (hv v (List.mem_of_getElem? hvi))
  have htk:=encVs_take hvi
  repeat' first|refine st ?_|((with_reducible apply go_i);conv=>whnf)|refine⟨λ_=>?_,λ_=>?_⟩|fail
  all_goals exact⟨i+1,w++encV v,rfl,rfl,rfl,by omega,by omega,by rw[htk,i2,List.append_assoc]⟩
 ·have hi:i=l.length:=by omega
  subst hi
  rw[List.take_length] at i2
  rw[<- i2]
  repeat' first|refine st ?_|((with_reducible apply go_i);conv=>whnf)|refine⟨λ_=>?_,λ_=>?_⟩|fail
  all_goals exact rfl
end Go.Proofs
end
section
namespace Go.Proofs
open Go.Bi
theorem unbyte_byteL:∀(s:List UInt8),unbyte (byteL s)=some s
 |[]=>rfl
 |c::s=>by
  rw[byteL_cons,unbyte,unbyte_byteL s]
  simp[unB1]
theorem drop_more{B x y:List UInt8}{a:Nat}(h:B.drop a=x++y):B.drop (a+x.length)=y:=by
 rw[<- List.drop_drop,h,List.drop_left]
theorem drop_len{B x y:List UInt8}{a:Nat}(h:B.drop a=x++y)(hx:x≠[]\/a<=B.length):a+x.length+y.length=B.length:=by
 have h1:=congrArg List.length h
 rw[List.length_drop,List.length_append] at h1
 rcases hx with hx|hx
 ·have:0<x.length:=List.length_pos_iff.2 hx
  omega
 ·omega
theorem encI_pos(n:Int):encI n≠[]:=List.length_pos_iff.1 (vi_pos _)
theorem cut2{B s y:List UInt8}{p:Nat}(h:B.drop p=s++y):((byteL B).drop (Int.toNat ↑p)).take (Int.toNat (↑p+↑s.length)-Int.toNat ↑p)=byteL s:=by
 rw[Int.toNat_natCast,show Int.toNat ((p:Int)+(s.length:Int))-p=s.length by omega,<- byteL_drop,h,byteL_app]
 rw[<- byteL_len s,List.take_left]
theorem C.codec_Text(B:List UInt8)(hB:B.length<=1073741824)(a:Nat)(s:List UInt8)(most:Int)(hs:s.length<=most)(hm:most<=1048576)(post:List UInt8)(hd:B.drop a=encT s++post) :
  Pure Tryz.prog N.codec_Text [.d (.sl (byteL B)),.d (eI a),.d (eI most)] (.tup [.d (.str s),.d (eI (a+(encT s).length:Nat)),.d (eI 0)]):=by
 have hd1:B.drop a=encI s.length++(s++post):=by rw[hd,encT,List.append_assoc]
 have hI:=C.codec_Int B hB a s.length ⟨by omega,by omega⟩ _ hd1
 have hd2:=drop_more hd1
 have hl2:=drop_len hd1 (.inl (encI_pos _))
 rw[List.length_append] at hl2
 have hby:unbyte (((byteL B).drop (Int.toNat ↑(a+(encI s.length).length))).take (Int.toNat (↑(a+(encI s.length).length)+↑s.length)-Int.toNat ↑(a+(encI s.length).length)))=some s:=by rw[cut2 hd2,unbyte_byteL]
 have hr:a+(encT s).length=a+(encI s.length).length+s.length:=by rw[encT,List.length_append];omega
 rw[hr]
 obtain⟨p,hp⟩:∃p,p=a+(encI s.length).length:=⟨_,rfl⟩
 rw[<- hp] at hI hby hl2 ⊢
 have hbl:=byteL_l B
 have hb1:=byteL_1 B
 obtain⟨Z,hZ⟩:∃z,z=byteL B:=⟨_,rfl⟩
 rw[<- hZ] at hI hby hbl hb1 ⊢
 refine F.codec_Text.go mixed rfl ?_
 repeat' first|refine st ?_|((with_reducible apply go_i);conv=>whnf)|((with_reducible apply k_by);(·exact hby))|refine⟨λ_=>?_,λ_=>?_⟩|fail
 all_goals exact rfl
theorem get_drop{B y:List UInt8}{a:Nat}{c:UInt8}(h:B.drop a=c::y):B[a]?=some c/\B.drop (a+1)=y/\a<B.length:=by
 have h1:(B.drop a)[0]?=some c:=by rw[h];rfl
 rw[List.getElem?_drop] at h1
 have h2:=(List.getElem?_eq_some_iff.1 h1).1
 exact⟨by simpa using h1,by rw[<- List.drop_drop,h];rfl,by omega⟩
theorem C.codec_Value(B:List UInt8)(hB:B.length<=1073741824)(a:Nat)(v:Vl)(hv:vValid v=true)(post:List UInt8)(hd:B.drop a=encV v++post) :
  Pure Tryz.prog N.codec_Value [.d (.sl (byteL B)),.d (eI a)] (.tup [eV v,.d (eI (a+(encV v).length:Nat)),.d (eI 0)]):=by
 have hbl:=byteL_l B
 have hb1:=byteL_1 B
 rcases vValid_k hv with ⟨h1,h2,h3⟩|⟨h1,h2,h3,h4⟩|⟨h1,h2,h3,h4⟩|⟨h1,h2,h3⟩
 ·obtain⟨k,n,t⟩:=v
  simp only at h1 h2 h3
  subst h1;subst h2;subst h3
  obtain⟨g1,g2,g3⟩:=get_drop (c:=0) (y:=post) hd
  have hget:=byteL_get g1
  rw[show encV ⟨0,0,[]⟩=[0] from rfl]
  obtain⟨Z,hZ⟩:∃z,z=byteL B:=⟨_,rfl⟩
  rw[<- hZ] at hget hbl hb1 ⊢
  refine F.codec_Value.go mixed rfl ?_
  repeat' first|refine st ?_|((with_reducible apply go_i);conv=>whnf)|refine⟨λ_=>?_,λ_=>?_⟩|fail
  all_goals exact rfl
 ·obtain⟨k,n,t⟩:=v
  simp only at h1 h2 h3 h4
  subst h1;subst h2
  obtain⟨g1,g2,g3⟩:=get_drop (c:=1) (y:=encI n++post) hd
  have hget:=byteL_get g1
  have hI:=C.codec_Int B hB (a+1) n ⟨by omega,by omega⟩ _ g2
  rw[show(((a+1:Nat):Int))=(a:Int)+1 from rfl] at hI
  rw[show encV ⟨1,n,[]⟩=1::encI n from rfl,List.length_cons,show a+((encI n).length+1)=a+1+(encI n).length by omega]
  obtain⟨p,hp⟩:∃p,p=a+1+(encI n).length:=⟨_,rfl⟩
  rw[<- hp] at hI ⊢
  obtain⟨Z,hZ⟩:∃z,z=byteL B:=⟨_,rfl⟩
  rw[<- hZ] at hget hI hbl hb1 ⊢
  refine F.codec_Value.go mixed rfl ?_
  repeat' first|refine st ?_|((with_reducible apply go_i);conv=>whnf)|refine⟨λ_=>?_,λ_=>?_⟩|fail
  all_goals exact rfl
 ·obtain⟨k,n,t⟩:=v
  have hV:=C.value_Valid ⟨k,n,t⟩ (by simp only at h3 ⊢;omega)
  rw[hv] at hV
  simp only at h1 h2 h3 h4
  subst h1;subst h2
  obtain⟨g1,g2,g3⟩:=get_drop (c:=2) (y:=encT t++post) hd
  have hget:=byteL_get g1
  have hI:=C.codec_Text B hB (a+1) t 200 (by omega) (by omega) _ g2
  rw[show(((a+1:Nat):Int))=(a:Int)+1 from rfl] at hI
  rw[show encV ⟨2,0,t⟩=2::encT t from rfl,List.length_cons,show a+((encT t).length+1)=a+1+(encT t).length by omega]
  obtain⟨p,hp⟩:∃p,p=a+1+(encT t).length:=⟨_,rfl⟩
  rw[<- hp] at hI ⊢
  obtain⟨Z,hZ⟩:∃z,z=byteL B:=⟨_,rfl⟩
  rw[<- hZ] at hget hI hbl hb1 ⊢
  refine F.codec_Value.go mixed rfl ?_
  repeat' first|refine st ?_|((with_reducible apply go_i);conv=>whnf)|refine⟨λ_=>?_,λ_=>?_⟩|fail
  all_goals exact rfl
 ·obtain⟨k,n,t⟩:=v
  simp only at h1 h2 h3
  subst h1;subst h2
  rcases h3 with rfl|rfl
  ·obtain⟨g1,g2,g3⟩:=get_drop (c:=3) (y:=post) hd
   have hget:=byteL_get g1
   rw[show encV ⟨3,0,[]⟩=[3] from rfl]
   obtain⟨Z,hZ⟩:∃z,z=byteL B:=⟨_,rfl⟩
   rw[<- hZ] at hget hbl hb1 ⊢
   refine F.codec_Value.go mixed rfl ?_
   repeat' first|refine st ?_|((with_reducible apply go_i);conv=>whnf)|refine⟨λ_=>?_,λ_=>?_⟩|fail
   all_goals exact rfl
  ·obtain⟨g1,g2,g3⟩:=get_drop (c:=4) (y:=post) hd
   have hget:=byteL_get g1
   rw[show encV ⟨3,1,[]⟩=[4] from rfl]
   obtain⟨Z,hZ⟩:∃z,z=byteL B:=⟨_,rfl⟩
   rw[<- hZ] at hget hbl hb1 ⊢
   refine F.codec_Value.go mixed rfl ?_
   repeat' first|refine st ?_|((with_reducible apply go_i);conv=>whnf)|refine⟨λ_=>?_,λ_=>?_⟩|fail
   all_goals exact rfl
theorem valid_I64{a b:Int}(h:valid a b=true):I64 a/\I64 b:=by
 simp only[valid,decide_eq_true_eq] at h
 exact⟨⟨by omega,by omega⟩,⟨by omega,by omega⟩⟩
theorem C.codec_Period(B:List UInt8)(hB:B.length<=1073741824)(a:Nat)(x y:Int)(hv:valid x y=true)(post:List UInt8)(hd:B.drop a=encP x y++post) :
  Pure Tryz.prog N.codec_Period [.d (.sl (byteL B)),.d (eI a)] (.tup [eP x y,.d (eI (a+(encP x y).length:Nat)),.d (eI 0)]):=by
 have hV:=C.period_Valid x y
 rw[hv] at hV
 obtain⟨hx,hy⟩:=valid_I64 hv
 have hd1:B.drop a=encI x++(encI y++post):=by rw[hd,encP,List.append_assoc]
 have hI:=C.codec_Int B hB a x hx _ hd1
 have hd2:=drop_more hd1
 have hJ:=C.codec_Int B hB _ y hy _ hd2
 rw[encP,List.length_append,<- Nat.add_assoc]
 obtain⟨p,hp⟩:∃p,p=a+(encI x).length:=⟨_,rfl⟩
 rw[<- hp] at hI hJ ⊢
 obtain⟨q,hq⟩:∃q,q=p+(encI y).length:=⟨_,rfl⟩
 rw[<- hq] at hJ ⊢
 refine F.codec_Period.go mixed rfl ?_
 repeat' first|refine st ?_|((with_reducible apply go_i);conv=>whnf)|refine⟨λ_=>?_,λ_=>?_⟩|fail
 all_goals exact rfl
end Go.Proofs
end
section
namespace Go.Proofs
open Go.Bi
abbrev zV:List D:=[.int .i64 0,.int .i64 0,.str []]
def rowA(l:List Vl)(i:Nat):List (List D):=eVs (l.take i)++List.replicate (l.length-i) zV
theorem rowA_len{l:List Vl}{i:Nat}(h:i<=l.length):(rowA l i).length=l.length:=by
 simp[rowA,eVs];omega
theorem rowA_get{l:List Vl}{i:Nat}(h:i<l.length):(rowA l i)[i]?=some zV:=by
 have e:(eVs (l.take i)).length=i:=by simp[eVs];omega
 rw[rowA,List.getElem?_append_right (by omega),e,Nat.sub_self]
 rw[List.getElem?_replicate];simp;omega
theorem rowA_set{l:List Vl}{i:Nat}{v:Vl}(h:l[i]?=some v):(rowA l i).set i v.ds=rowA l (i+1):=by
 have hi:=(List.getElem?_eq_some_iff.1 h).1
 have e:(eVs (l.take i)).length=i:=by simp[eVs];omega
 have e2:l.length-i=(l.length-(i+1))+1:=by omega
 have e3:(rowA l i).set i v.ds=(rowA l i).set ((eVs (l.take i)).length+0) v.ds:=by rw[e];rfl
 rw[e3,rowA,List.set_append_right _ _ (by omega),Nat.add_zero,Nat.sub_self,e2,List.replicate_succ,List.set_cons_zero]
 simp[rowA,eVs,List.take_add_one,h]
theorem rowA_mem{l:List Vl}{i:Nat}:∀e∈rowA l i,e.length=3:=by
 intro e he
 rcases List.mem_append.1 he with h|h
 ·exact eVs_mem _ e h
 ·rw[List.eq_of_mem_replicate h];rfl
theorem C.codec_Row(B:List UInt8)(hB:B.length<=1073741824)(a:Nat)(l:List Vl)(hl:l.length<=12)(hv:∀v∈l,vValid v=true)(post:List UInt8)(hd:B.drop a=encR l++post) :
  Pure Tryz.prog N.codec_Row [.d (.sl (byteL B)),.d (eI a)] (.tup [.d (.sl (eVs l)),.d (eI (a+(encR l).length:Nat)),.d (eI 0)]):=by
 have hd1:B.drop a=encI l.length++(encVs l++post):=by rw[hd,encR,List.append_assoc]
 have hI:=C.codec_Int B hB a l.length ⟨by omega,by omega⟩ _ hd1
 have hd2:=drop_more hd1
 have hl2:=drop_len hd1 (.inl (encI_pos _))
 rw[encR,List.length_append,<- Nat.add_assoc]
 obtain⟨p,hp⟩:∃p,p=a+(encI l.length).length:=⟨_,rfl⟩
 rw[<- hp] at hI hd2 hl2 ⊢
 have hV:=λ(q:Nat) (v:Vl) (hq:vValid v=true) (post:List UInt8) (h:B.drop q=encV v++post)=>C.codec_Value B hB q v hq post h
 obtain⟨Z,hZ⟩:∃z,z=byteL B:=⟨_,rfl⟩
 rw[<- hZ] at hI hV ⊢
 refine F.codec_Row.go mixed rfl ?_
 repeat' first|refine st ?_|((with_reducible apply go_i);conv=>whnf)|refine⟨λ_=>?_,λ_=>?_⟩|fail
 have hR:List.replicate (Int.toNat ↑l.length) [D.int .i64 0,D.int .i64 0,D.str []]=rowA l 0:=by simp[rowA,eVs]
 have hRl:=rowA_len (l:=l) (i:=0) (by omega)
 rw[hR]
 obtain⟨R0,hR0⟩:∃r,r=rowA l 0:=⟨_,rfl⟩
 rw[<- hR0] at hRl ⊢
 refine x_loop3 mixed Lt.codec_Row_l0 Lk.codec_Row_l0 (λ(i q:Nat) (A:List (List D))=>[.d (eI q),.d (eI i)]) (λi q A=>[.arr A 3 0 false]) (λi q A=>i<=l.length/\q=p+(encVs (l.take i)).length/\A=rowA l i) (λi q A=>l.length-i) 0 p R0 rfl rfl rfl rfl (λ_ _ _ _=>⟨rfl,rfl⟩) rfl ⟨by omega,by simp[encVs],hR0⟩ ?_
 repeat' first|refine st ?_|((with_reducible apply go_i);conv=>whnf)|refine⟨λ_=>?_,λ_=>?_⟩|fail
 intro i q A ⟨i1,i2,i3⟩
 have hAl:=rowA_len i1
 have hAm:=rowA_mem (l:=l) (i:=i)
 by_cases hi:i<l.length
 ·obtain⟨v,hvi⟩:∃v,l[i]?=some v:=⟨_,List.getElem?_eq_getElem hi⟩
  have hget:=rowA_get hi
  have hset:=rowA_set hvi
  have htk:=encVs_take hvi
  have hdr:B.drop q=encV v++(encVs (l.drop (i+1))++post):=by
   have hsp:encVs l=encVs (l.take i)++(encV v++encVs (l.drop (i+1))):=by
    rw[<- List.append_assoc,<- htk]
    unfold encVs
    rw[<- List.flatMap_append,List.take_append_drop]
   rw[hsp,List.append_assoc] at hd2
   rw[i2,drop_more hd2,List.append_assoc]
  have hc:=hV q v (hv v (List.mem_of_getElem? hvi)) _ hdr
  rw[<- i3] at hget hset hAl hAm
  repeat' first|refine st ?_|((with_reducible apply go_i);conv=>whnf)|refine⟨λ_=>?_,λ_=>?_⟩|fail
  all_goals exact⟨i+1,q+(encV v).length,A.set i v.ds,rfl,rfl,rfl,by omega,by omega,by rw[htk,List.length_append,i2,Nat.add_assoc],hset⟩
 ·have hi:i=l.length:=by omega
  subst hi
  rw[<- i3] at hAl hAm
  have hAe:A=eVs l:=by rw[i3];simp[rowA]
  rw[List.take_length] at i2
  repeat' first|refine st ?_|((with_reducible apply go_i);conv=>whnf)|refine⟨λ_=>?_,λ_=>?_⟩|fail
  all_goals (rw[hAe,i2];rfl)
end Go.Proofs
end
