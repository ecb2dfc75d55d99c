/- Texts of this claim, joined. No condition. -/
import Derived.Test.YtfnaleemmeejcaaGreatBi
import Derived.Test.YtfnaleemmeejcaaGreatIc0
import Derived.Test.YtfnaleemmeejcaaGreatIc1
import Derived.Lib.Strings
import Derived.Lib.Slices
import Derived.Lib.Walk
import Derived.Lib.Bytealg
set_option linter.unusedSimpArgs false
set_option linter.unusedVariables false
set_option maxRecDepth 10000
set_option maxHeartbeats 4000000
section
namespace Go.Bi
open Go
section
variable {P:Program}{n nb:Nat}{M:Mem}{G:Gh}{os:List AO}{w:World}{ρ:Rho}{a:Act}
def retOI(Q:AV->List AO->Prop)(rs:List RV)(ρ:Rho)(os:List AO):Prop:=resI ρ os rs λl=>match l with
 |[v]=>Q v os
 |_=>False
def retO(Q:AV->List AO->Prop)(rs:List RV)(L:Sl)(os:List AO):Prop:=xRes L os rs λl=>match l with
 |[v]=>Q v os
 |_=>False
theorem retO_ok{Q:AV->List AO->Prop}{rs:List RV}{L:Sl}{os:List AO}(h:retO Q rs L os):retOI Q rs (ofL L) os:=xRes_ok h
theorem own_ok{c:Ctx}(hR:Rel n nb c M G os w ρ a){fn:Func}{rs:List RV}(hrs:fn.results.toList.mapM (cRV P)=some rs){Q:AV->List AO->Prop}(h:retOI Q rs ρ os) :
  ∃v,(results fn a.tmps).run P w=.ok v w/\∃M' G' r os',Env M' G' os' w/\Since c.M c.G c.os c.w M' G' os' w/\VA M' G' os' r v/\Q r os':=by
 obtain⟨l,vs,h1,h2,h3,h4⟩:=resI_run hR.env hR.tmps _ rs hrs _ h
 match l,h1,h3,h4 with
 |[x],h1,h3,h4=>
  simp only[List.length_cons,List.length_nil] at h3
  refine⟨_,run_results h2,M,G,x,os,hR.env,hR.since,?_,h1⟩
  rw[dif_pos (by omega)]
  exact h4 0 x vs[0] rfl (List.getElem?_eq_getElem (by omega))
theorem fn_own(hm:P.follows .mixedOrders=true){f:FuncId}{fn:Func}{code:Code}{ic:IC}{rs:List RV}(hf:P.funcs[f]?=some fn)(hname:fn.name≠ "runtime.NumGoroutine")(hb:fn.body=some code)(hc:cC P fn.ntmps code=some ic)
  (hrs:fn.results.toList.mapM (cRV P)=some rs) {args:List AV} {bs:List AO} (hargs:args.length<=fn.ntmps) {Q:AV->List AO->Prop}
  (h:wpI P fn.ntmps bs.length ic {norm:=retOI Q rs,exit:=λ_ _ _=>False,ret:=retOI Q rs} (argsRho args) bs):CallSpec P f args bs Q:=by
 refine⟨⟨fn,hf,by rw[hb];rfl,hname⟩,λM G w vs he hl hv=>?_⟩
 refine calls_of_wp hf hb (wp_mono (wpI_tri hm code ic hc _ _ _ h ⟨M,G,bs,w⟩ M G w {tmps:=vs++Array.replicate (fn.ntmps-vs.size) undef,defers:=[]} ?_) λe a' w' hp=>?_)
 ·exact {
   env:=he,since:=Since.refl ..,size:=by simp;omega,defers:=rfl,base:=rfl
   tmps:=λt=>by
    unfold argsRho
    by_cases ht:t<args.length
    ·have h1:(vs++Array.replicate (fn.ntmps-vs.size) undef).getD t undef=vs[t]:=by
      simp[Array.getElem?_append_left (show t<vs.size by omega),show t<vs.size by omega]
     have h2:args.getD t .junk=args[t]:=by simp[ht]
     show VA M G bs (args.getD t .junk) ((vs++Array.replicate (fn.ntmps-vs.size) undef).getD t undef)
     rw[h1,h2]
     have:=hv t args[t] vs[t] (List.getElem?_eq_getElem ht) (Array.getElem?_eq_getElem (by omega))
     generalize args[t]=c at this
     cases c with
     |tup cs=>exact this.elim
     |junk=>trivial
     |_=>exact this
    ·have:args.getD t .junk=.junk:=by simp[List.getD_eq_getElem?_getD,List.getElem?_eq_none (Nat.le_of_not_lt ht)]
     rw[this]
     trivial}
 ·have fin:Fits fn.ntmps bs.length ⟨M,G,bs,w⟩ (retOI Q rs) a' w'->a'.defers=[]/\∃v,(results fn a'.tmps).run P w'=.ok v w'/\∃v',Ending.returned v=.returned v'/\∃M' G' r os',Env M' G' os' w'/\Since M G bs w M' G' os' w'/\VA M' G' os' r v'/\Q r os':=by
   rintro⟨M',G',os',ρ',hR,hk⟩
   obtain⟨v,h1,h2⟩:=own_ok hR hrs hk
   exact⟨hR.defers,v,h1,v,rfl,h2⟩
  cases e with
  |normal=>exact fin hp
  |ret=>exact fin hp
  |exit id=>obtain⟨_,_,_,_,_,hk⟩:=hp;exact hk.elim
  |_=>exact hp.elim
end
theorem IsFn.goO{P:Program}(hm:P.follows .mixedOrders=true){f n:Nat}{ic:IC}{rs:List RV}(h:IsFn P f n ic rs){args:List AV}{bs:List AO}(hargs:Nat.ble args.length n=true){Q:AV->List AO->Prop}
  (hw:Go (xI P n bs.length ic (retO Q rs) (λ_ _ _=>False) (retO Q rs) (argsL 0 args) bs)):CallSpec P f args bs Q:=by
 obtain⟨fn,h1,h2,h3,h4,h5⟩:=h
 obtain⟨code,hb,hc⟩:=Option.bind_eq_some_iff.1 h4
 subst h2
 refine fn_own hm h1 (by simpa using h3) hb hc h5 (Nat.le_of_ble_eq_true hargs) ?_
 rw[ofL_args]
 exact xI_ok (K:=⟨retO Q rs,λ_ _ _=>False,retO Q rs⟩) ⟨λL os h=>retO_ok h,λ_ _ _ h=>h,λL os h=>retO_ok h⟩ hw
theorem CallSpec.alone{P:Program}{g:FuncId}{args:List AV}{Q:AV->List AO->Prop}(h:CallSpec P g args [] Q)(hd:∀a∈args,∃x,a=.d x)(os:List AO) :
  CallSpec P g args os (λr os'=>∃r0 os0,Q r0 os0/\r=mA (rn [] os.length) r0/\os'=os++os0.map (mO (rn [] os.length))):=by
 have:=CallSpec.frame (K:=λr os'=>∃r0 os0,Q r0 os0/\r=mA (rn [] os.length) r0/\os'=os++os0.map (mO (rn [] os.length))) h [] os rfl (by simp) (λi x hx=>by simp at hx)
  (λa ha=>by obtain⟨x,rfl⟩:=hd a ha;trivial) (λx hx=>by simp at hx) (λr bs' hq=>⟨r,bs',hq,rfl,rfl⟩)
 have e:args.map (mG (rn [] os.length))=args:=by
  rw[List.map_congr_left (g:=id) (λa ha=>by obtain⟨x,rfl⟩:=hd a ha;rfl),List.map_id]
 rwa [e] at this
end Go.Bi
end
section
namespace Go.Proofs
open Go.Bi
abbrev eI(n:Int):D:=.int .i64 n
abbrev eP(a b:Int):AV:=.agg [.d (eI a),.d (eI b)]
def eIs(l:List Int):List (List D):=l.map λr=>[eI r]
theorem eIs_get{l:List Int}{i:Nat}{r:Int}(h:l[i]?=some r):(eIs l)[i]?=some [eI r]:=by simp[eIs,h]
theorem eIs_len(l:List Int):(eIs l).length=l.length:=by simp[eIs]
theorem eIs_mem(l:List Int):∀e∈eIs l,e.length=1:=by
 intro e he
 obtain⟨x,_,rfl⟩:=List.mem_map.1 he
 rfl
theorem nsl_cnd{es:List (List D)}{nl:Bool}(h:nl=es.isEmpty):CnD nl .nil (.sl es)=nsl es:=by
 subst h
 cases es<;>rfl
theorem all_take_succ{α:Type}{f:α->Bool}{l:List α}{i:Nat}{x:α}(h:l[i]?=some x):(l.take (i+1)).all f=((l.take i).all f&&f x):=by
 simp only[List.take_add_one,h,List.all_append,Option.toList,List.all_cons,List.all_nil,Bool.and_true]
theorem all_none{α:Type}{f:α->Bool}{l:List α}{i:Nat}{x:α}(h:l[i]?=some x)(hx:f x=false):l.all f=false:=by
 rw[Bool.eq_false_iff]
 intro ha
 rw[List.all_eq_true.1 ha x (List.mem_of_getElem? h)] at hx
 cases hx
def valid(a b:Int):Bool:=decide (0<=a/\a<b/\b<=1099511627776)
theorem C.period_Valid(a b:Int):Pure Tryz.prog N.period_Valid [eP a b] (.d (.bool (valid a b))):=by
 refine F.period_Valid.go mixed rfl ?_
 repeat' first|refine st ?_|refine⟨λ_=>?_,λ_=>?_⟩|fail
 all_goals (simp_all[valid]<;>omega)
def rel(a b c d:Int):Int×Bool:=
 if valid a b&&valid c d then
  (if b<c then 0 else if b=c then 1 else if d<a then 12 else if d=a then 11 else if a=c/\b=d then 6
  else if a=c/\b<d then 3 else if a=c then 9 else if b=d/\a > c then 5 else if b=d then 7 else if a<c/\d<b then 8 else if c<a/\b<d then 4 else if a<c then 2 else 10,true)
 else (0,false)
theorem C.allen_Relation(a b c d:Int):Pure Tryz.prog N.allen_Relation [eP a b,eP c d] (.tup [.d (.int .i64 (rel a b c d).1),.d (.bool (rel a b c d).2)]):=by
 refine F.allen_Relation.go mixed rfl ?_
 repeat' first|refine st ?_|((with_reducible first|apply k_pn|apply k_pc);(·exact C.period_Valid _ _))|refine⟨λ_=>?_,λ_=>?_⟩|fail
 all_goals simp_all[rel]
 all_goals (repeat' split)<;>omega
theorem rel_range(a b c d:Int):0<=(rel a b c d).1/\(rel a b c d).1<13:=by
 by_cases h:(valid a b&&valid c d)=true
 ·rw[rel,if_pos h]
  dsimp only
  repeat' split
  all_goals omega
 ·rw[rel,if_neg h]
  exact⟨by decide,by decide⟩
theorem C.ref_Valid1(a b:Int):Pure Tryz.prog N.bt_ref01_Valid [eP a b] (.d (.bool (valid a b))):=by
 refine F.bt_ref01_Valid.go mixed rfl ?_
 repeat' first|refine st ?_|refine⟨λ_=>?_,λ_=>?_⟩|fail
 all_goals (simp_all[valid]<;>omega)
def isR(r a b c d:Int):Bool:=
 if r=0 then decide (b<c) else if r=1 then decide (b=c) else if r=2 then decide (a<c/\c<b/\b<d) else if r=3 then decide (a=c/\b<d) else if r=4 then decide (c<a/\b<d)
 else if r=5 then decide (b=d/\c<a) else if r=6 then decide (a=c/\b=d) else if r=7 then decide (b=d/\a<c) else if r=8 then decide (a<c/\d<b) else if r=9 then decide (a=c/\d<b)
 else if r=10 then decide (c<a/\a<d/\d<b) else if r=11 then decide (d=a) else if r=12 then decide (d<a) else false
theorem C.ref_Is(r a b c d:Int):Pure Tryz.prog N.bt_ref02_Is [.d (eI r),eP a b,eP c d] (.d (.bool (isR r a b c d))):=by
 refine F.bt_ref02_Is.go mixed rfl ?_
 repeat' first|refine st ?_|refine⟨λ_=>?_,λ_=>?_⟩|fail
 all_goals simp_all[isR]
 all_goals (intros;omega)
theorem isR_at(a b c d:Int)(h1:valid a b=true)(h2:valid c d=true):isR (rel a b c d).1 a b c d=true:=by
 simp only[valid,decide_eq_true_eq] at h1 h2
 have h:(valid a b&&valid c d)=true:=by simp[valid,h1,h2]
 rw[rel,if_pos h]
 dsimp only
 repeat' split
 all_goals (simp[isR];try omega)
theorem isR_of(r a b c d:Int)(h1:valid a b=true)(h2:valid c d=true)(h3:isR r a b c d=true):(rel a b c d).1=r:=by
 simp only[valid,decide_eq_true_eq] at h1 h2
 have h:(valid a b&&valid c d)=true:=by simp[valid,h1,h2]
 have hr:0<=r/\r<13:=by
  by_cases hr:0<=r/\r<13
  ·exact hr
  ·unfold isR at h3
   rw[if_neg (by omega),if_neg (by omega),if_neg (by omega),if_neg (by omega),if_neg (by omega),if_neg (by omega),if_neg (by omega),if_neg (by omega),if_neg (by omega),if_neg (by omega),if_neg (by omega),if_neg (by omega),if_neg (by omega)] at h3
   cases h3
 rw[rel,if_pos h]
 dsimp only
 rcases(show r=0\/r=1\/r=2\/r=3\/r=4\/r=5\/r=6\/r=7\/r=8\/r=9\/r=10\/r=11\/r=12 by omega) with rfl|rfl|rfl|rfl|rfl|rfl|rfl|rfl|rfl|rfl|rfl|rfl|rfl
 ·have hh:=h3;simp only[isR,decide_eq_true_eq] at hh;simp at hh
  rw[if_pos (by omega)]
 ·have hh:=h3;simp only[isR,decide_eq_true_eq] at hh;simp at hh
  rw[if_neg (by omega),if_pos (by omega)]
 ·have hh:=h3;simp only[isR,decide_eq_true_eq] at hh;simp at hh
  rw[if_neg (by omega),if_neg (by omega),if_neg (by omega),if_neg (by omega),if_neg (by omega),if_neg (by omega),if_neg (by omega),if_neg (by omega),if_neg (by omega),if_neg (by omega),if_neg (by omega),if_pos (by omega)]
 ·have hh:=h3;simp only[isR,decide_eq_true_eq] at hh;simp at hh
  rw[if_neg (by omega),if_neg (by omega),if_neg (by omega),if_neg (by omega),if_neg (by omega),if_pos (by omega)]
 ·have hh:=h3;simp only[isR,decide_eq_true_eq] at hh;simp at hh
  rw[if_neg (by omega),if_neg (by omega),if_neg (by omega),if_neg (by omega),if_neg (by omega),if_neg (by omega),if_neg (by omega),if_neg (by omega),if_neg (by omega),if_neg (by omega),if_pos (by omega)]
 ·have hh:=h3;simp only[isR,decide_eq_true_eq] at hh;simp at hh
  rw[if_neg (by omega),if_neg (by omega),if_neg (by omega),if_neg (by omega),if_neg (by omega),if_neg (by omega),if_neg (by omega),if_pos (by omega)]
 ·have hh:=h3;simp only[isR,decide_eq_true_eq] at hh;simp at hh
  rw[if_neg (by omega),if_neg (by omega),if_neg (by omega),if_neg (by omega),if_pos (by omega)]
 ·have hh:=h3;simp only[isR,decide_eq_true_eq] at hh;simp at hh
  rw[if_neg (by omega),if_neg (by omega),if_neg (by omega),if_neg (by omega),if_neg (by omega),if_neg (by omega),if_neg (by omega),if_neg (by omega),if_pos (by omega)]
 ·have hh:=h3;simp only[isR,decide_eq_true_eq] at hh;simp at hh
  rw[if_neg (by omega),if_neg (by omega),if_neg (by omega),if_neg (by omega),if_neg (by omega),if_neg (by omega),if_neg (by omega),if_neg (by omega),if_neg (by omega),if_pos (by omega)]
 ·have hh:=h3;simp only[isR,decide_eq_true_eq] at hh;simp at hh
  rw[if_neg (by omega),if_neg (by omega),if_neg (by omega),if_neg (by omega),if_neg (by omega),if_neg (by omega),if_pos (by omega)]
 ·have hh:=h3;simp only[isR,decide_eq_true_eq] at hh;simp at hh
  rw[if_neg (by omega),if_neg (by omega),if_neg (by omega),if_neg (by omega),if_neg (by omega),if_neg (by omega),if_neg (by omega),if_neg (by omega),if_neg (by omega),if_neg (by omega),if_neg (by omega),if_neg (by omega)]
 ·have hh:=h3;simp only[isR,decide_eq_true_eq] at hh;simp at hh
  rw[if_neg (by omega),if_neg (by omega),if_neg (by omega),if_pos (by omega)]
 ·have hh:=h3;simp only[isR,decide_eq_true_eq] at hh;simp at hh
  rw[if_neg (by omega),if_neg (by omega),if_pos (by omega)]
theorem isR_eq(r a b c d:Int)(h1:valid a b=true)(h2:valid c d=true):isR r a b c d=decide ((rel a b c d).1=r):=by
 rw[Bool.eq_iff_iff,decide_eq_true_eq]
 exact⟨isR_of r a b c d h1 h2,λe=>by rw[<- e];exact isR_at a b c d h1 h2⟩
theorem rel_is(a b c d:Int):(rel a b c d).2=(valid a b&&valid c d):=by
 by_cases h:(valid a b&&valid c d)=true
 ·rw[rel,if_pos h,h]
 ·rw[rel,if_neg h,Bool.eq_false_iff.2 h]
theorem rel_no{a b c d:Int}(h:(valid a b&&valid c d)=false):rel a b c d=(0,false):=by
 unfold rel;rw[h];rfl
theorem C.ref_Holds(r a b c d:Int):Pure Tryz.prog N.bt_ref02_Holds [.d (eI r),eP a b,eP c d] (.d (.bool ((rel a b c d).2&&decide ((rel a b c d).1=r)))):=by
 refine F.bt_ref02_Holds.go mixed rfl ?_
 rw[rel_is]
 repeat' first|refine st ?_|((with_reducible first|apply k_pn|apply k_pc);(·first|exact C.ref_Valid1 _ _|exact C.ref_Is _ _ _ _ _))|refine⟨λ_=>?_,λ_=>?_⟩|fail
 ·rename_i h1 h2
  rw[isR_eq _ _ _ _ _ h1 h2,h1,h2];rfl
 ·rename_i h1 h2
  rw[h1,h2];rfl
 ·rename_i h1
  rw[h1];rfl
theorem C.ref_Relation(a b c d:Int):Pure Tryz.prog N.bt_ref02_Relation [eP a b,eP c d] (.tup [.d (.int .i64 (rel a b c d).1),.d (.bool (rel a b c d).2)]):=by
 refine F.bt_ref02_Relation.go mixed rfl ?_
 repeat' first|refine st ?_|refine⟨λ_=>?_,λ_=>?_⟩|fail
 refine x_loop1 mixed Lt.bt_ref02_Relation_l0 Lk.bt_ref02_Relation_l0 (λ(i:Nat)=>[.d (eI i)]) (λi=>[.cells [.d (eI a),.d (eI b)],.cells [.d (eI c),.d (eI d)]]) (λi=>i<=13/\∀j:Nat,j<i->((rel a b c d).2&&decide ((rel a b c d).1=j))=false) (λi=>13-i) 0 rfl rfl rfl rfl (λ_ _=>⟨rfl,rfl⟩) rfl ⟨by omega,by omega⟩ ?_
 repeat' first|refine st ?_|refine⟨λ_=>?_,λ_=>?_⟩|fail
 intro i ⟨h1,h2⟩
 repeat' first|refine st ?_|((with_reducible first|apply k_pn|apply k_pc);(·exact C.ref_Holds _ _ _ _ _))|refine⟨λ_=>?_,λ_=>?_⟩|fail
 ·rename_i h3 h4
  simp[h3,h4]
 ·rename_i h3 h4
  refine⟨i+1,rfl,rfl,rfl,by omega,by omega,λj hj=>?_⟩
  rcases Nat.lt_succ_iff_lt_or_eq.1 hj with h|rfl
  ·exact h2 j h
  ·rw[h3,decide_eq_false h4];rfl
 ·rename_i h3
  refine⟨i+1,rfl,rfl,rfl,by omega,by omega,λj hj=>?_⟩
  rw[h3];rfl
 ·have:(rel a b c d).2=false:=by
   rw[Bool.eq_false_iff]
   intro h
   have hr:=rel_range a b c d
   have:=h2 (rel a b c d).1.toNat (by omega)
   rw[h] at this
   simp at this
   omega
  rw[rel_is] at this
  rw[rel_no this]
end Go.Proofs
end
section
namespace Go.Proofs
open Go.Bi
theorem enters_fn{P:Program}{f n:Nat}{ic:IC}{rs:List RV}(h:IsFn P f n ic rs):Bi.Enters P f:=by
 obtain⟨fn,h1,h2,h3,h4,h5⟩:=h
 obtain⟨code,hb,hc⟩:=Option.bind_eq_some_iff.1 h4
 exact⟨fn,h1,by rw[hb];rfl,by simpa using h3⟩
set_option maxRecDepth 100000 in
theorem calls_CompareString(a b:ByteArray)(w:World) :
  Calls Tryz.prog 235 #[.string a,.string b] w λe w'=>e=.returned (.int .i64 (Lib.compareBytes a.data.toList b.data.toList))/\w'=w:=by
 go_enter Tryz.func235,Tryz.ntmps235
 go_wp2
 rw[run_callFunc_extern Tryz.func240 (by kernel_rfl) (by kernel_rfl) (by kernel_rfl) (e:=Extern.BytealgCompare.compare) (by kernel_rfl),Lib.run_compareString]
 simp only[Result.andThen]
 rw[Oper.upon_value]
 go_wp2
 go_ret
 exact⟨rfl,rfl⟩
abbrev cmpB(a b:List UInt8):Int:=Lib.compareBytes a b
theorem C.CompareString(a b:List UInt8):Pure Tryz.prog N.internal_bytealg_CompareString [.d (.str a),.d (.str b)] (.d (eI (cmpB a b))):=by
 refine⟨enters_fn F.internal_bytealg_CompareString,λM G w vs he hl hv=>?_⟩
 have h1:vs=#[.string ⟨⟨a⟩⟩,.string ⟨⟨b⟩⟩]:=by
  match vs,hl with
  |⟨[x,y]⟩,_=>
   have e1:=va_str (M:=M) (G:=G) (os:=[]) (hv 0 _ x rfl rfl)
   have e2:=va_str (M:=M) (G:=G) (os:=[]) (hv 1 _ y rfl rfl)
   rw[e1,e2]
 subst h1
 refine(calls_CompareString ⟨⟨a⟩⟩ ⟨⟨b⟩⟩ w).mono ?_
 rintro e w' ⟨rfl,rfl⟩
 exact⟨_,rfl,M,G,_,[],he,Since.refl ..,Rd.int' ..,rfl,rfl⟩
theorem C.strings_Compare(a b:List UInt8):Pure Tryz.prog N.strings_Compare [.d (.str a),.d (.str b)] (.d (eI (cmpB a b))):=by
 refine F.strings_Compare.go mixed rfl ?_
 repeat' first|refine st ?_|((with_reducible apply go_i);conv=>whnf)|((with_reducible first|apply k_pn|apply k_pc);(·exact C.CompareString _ _))|refine⟨λ_=>?_,λ_=>?_⟩|fail
def cmpI(a b:Int):Int:=if a<b then -1 else if b<a then 1 else 0
theorem C.cmp_isNaN(a:Int):Pure Tryz.prog N.cmp_isNaN_int [.d (eI a)] (.d (.bool false)):=by
 refine F.cmp_isNaN_int.go mixed rfl ?_
 repeat' first|refine st ?_|((with_reducible apply go_i);conv=>whnf)|refine⟨λ_=>?_,λ_=>?_⟩|fail
 all_goals simp
theorem C.cmp_Compare(a b:Int):Pure Tryz.prog N.cmp_Compare_int [.d (eI a),.d (eI b)] (.d (eI (cmpI a b))):=by
 refine F.cmp_Compare_int.go mixed rfl ?_
 repeat' first|refine st ?_|((with_reducible apply go_i);conv=>whnf)|((with_reducible first|apply k_pn|apply k_pc);(·exact C.cmp_isNaN _))|refine⟨λ_=>?_,λ_=>?_⟩|fail
 ·rename_i h;rw[cmpI,if_pos h]
 ·rename_i h h2;rw[cmpI,if_neg h,if_pos h2]
 ·rename_i h h2;rw[cmpI,if_neg h,if_neg h2]
def or3(a b c:Int):Int:=if a≠0 then a else if b≠0 then b else c
theorem C.cmp_Or(a b c:Int):Pure Tryz.prog N.cmp_Or_int [.d (.sl [[eI a],[eI b],[eI c]])] (.d (eI (or3 a b c))):=by
 refine F.cmp_Or_int.go mixed rfl ?_
 repeat' first|refine st ?_|((with_reducible apply go_i);conv=>whnf)|refine⟨λ_=>?_,λ_=>?_⟩|fail
 refine x_loop1 mixed Lt.cmp_Or_int_l0 Lk.cmp_Or_int_l0 (λ(i:Nat)=>[.d (eI i)]) (λi=>[]) (λi=>i<=3/\(0<i->a=0)/\(1<i->b=0)/\(2<i->c=0)) (λi=>3-i) 0 rfl rfl rfl rfl (λ_ _=>⟨rfl,rfl⟩) rfl ⟨by omega,by omega,by omega,by omega⟩ ?_
 repeat' first|refine st ?_|((with_reducible apply go_i);conv=>whnf)|refine⟨λ_=>?_,λ_=>?_⟩|fail
 intro i ⟨h1,h2,h3,h4⟩
 have hl3:([[eI a],[eI b],[eI c]]:List (List D)).length=3:=rfl
 have hm:∀e∈([[eI a],[eI b],[eI c]]:List (List D)),e.length=1:=by intro e he;simp at he;rcases he with rfl|rfl|rfl<;>rfl
 rcases(show i=0\/i=1\/i=2\/i=3 by omega) with rfl|rfl|rfl|rfl
 ·have hg:([[eI a],[eI b],[eI c]]:List (List D))[((0:Nat):Int).toNat]?=some [eI a]:=rfl
  repeat' first|refine st ?_|((with_reducible apply go_i);conv=>whnf)|refine⟨λ_=>?_,λ_=>?_⟩|fail
  rotate_left
  ·rename_i h;rw[or3,if_pos h]
  ·rename_i h;exact⟨1,rfl,rfl,rfl,by omega,by omega,by omega,by omega,by omega⟩
 ·have hg:([[eI a],[eI b],[eI c]]:List (List D))[((1:Nat):Int).toNat]?=some [eI b]:=rfl
  have e1:=h2 (by omega)
  repeat' first|refine st ?_|((with_reducible apply go_i);conv=>whnf)|refine⟨λ_=>?_,λ_=>?_⟩|fail
  rotate_left
  ·rename_i h;rw[or3,if_neg (by omega),if_pos h]
  ·rename_i h;exact⟨2,rfl,rfl,rfl,by omega,by omega,by omega,by omega,by omega⟩
 ·have hg:([[eI a],[eI b],[eI c]]:List (List D))[((2:Nat):Int).toNat]?=some [eI c]:=rfl
  have e1:=h2 (by omega)
  have e2:=h3 (by omega)
  repeat' first|refine st ?_|((with_reducible apply go_i);conv=>whnf)|refine⟨λ_=>?_,λ_=>?_⟩|fail
  rotate_left
  ·rename_i h;rw[or3,if_neg (by omega),if_neg (by omega)]
  ·rename_i h;exact⟨3,rfl,rfl,rfl,by omega,by omega,by omega,by omega,by omega⟩
 ·have e1:=h2 (by omega)
  have e2:=h3 (by omega)
  have e3:=h4 (by omega)
  repeat' first|refine st ?_|((with_reducible apply go_i);conv=>whnf)|refine⟨λ_=>?_,λ_=>?_⟩|fail
  rw[or3,if_neg (by omega),if_neg (by omega),e3]
structure Vl where
 k:Int
 n:Int
 s:List UInt8
 deriving DecidableEq
abbrev Vl.ds(v:Vl):List D:=[eI v.k,eI v.n,.str v.s]
abbrev eV(v:Vl):AV:=.agg [.d (eI v.k),.d (eI v.n),.d (.str v.s)]
def vNull:Vl:=⟨0,0,[]⟩
def prC(c:UInt8):Bool:=decide (32<=c.toNat/\c.toNat<=126)
def prB(s:List UInt8):Bool:=s.all prC
def vValid(v:Vl):Bool:=
 if v.k=0 then decide (v.n=0/\v.s=[])
 else if v.k=1 then decide (v.s=[]/\-1125899906842624<=v.n/\v.n<=1125899906842624)
 else if v.k=2 then decide (v.n=0/\v.s.length<=200)&&prB v.s
 else if v.k=3 then decide (v.s=[]/\(v.n=0\/v.n=1)) else false
theorem C.value_printable(s:List UInt8)(hs:s.length<=4611686018427387904):Pure Tryz.prog N.value_printable [.d (.str s)] (.d (.bool (prB s))):=by
 refine F.value_printable.go mixed rfl ?_
 repeat' first|refine st ?_|((with_reducible apply go_i);conv=>whnf)|refine⟨λ_=>?_,λ_=>?_⟩|fail
 refine x_loop1 mixed Lt.value_printable_l0 Lk.value_printable_l0 (λ(i:Nat)=>[.d (eI i)]) (λi=>[]) (λi=>i<=s.length/\(s.take i).all prC=true) (λi=>s.length-i) 0 rfl rfl rfl rfl (λ_ _=>⟨rfl,rfl⟩) rfl ⟨by omega,rfl⟩ ?_
 repeat' first|refine st ?_|((with_reducible apply go_i);conv=>whnf)|refine⟨λ_=>?_,λ_=>?_⟩|fail
 intro i ⟨h1,h2⟩
 cases hx:s[i]? with
 |some c=>
  have hlt:=(List.getElem?_eq_some_iff.1 hx).1
  have hg:s.getD ((i:Int)).toNat 0=c:=by simp[List.getD_eq_getElem?_getD,hx]
  repeat' first|refine st ?_|((with_reducible apply go_i);conv=>whnf)|refine⟨λ_=>?_,λ_=>?_⟩|fail
  ·rename_i h
   rw[hg] at h
   rw[prB,all_none hx (decide_eq_false (by omega))]
  ·rename_i h h'
   rw[hg] at h h'
   rw[prB,all_none hx (decide_eq_false (by omega))]
  ·rename_i h h'
   rw[hg] at h h'
   refine⟨i+1,rfl,rfl,rfl,by omega,by omega,?_⟩
   rw[all_take_succ hx,h2,prC,decide_eq_true (by omega)];rfl
 |none=>
  have hge:=List.getElem?_eq_none_iff.1 hx
  rw[List.take_of_length_le hge] at h2
  repeat' first|refine st ?_|((with_reducible apply go_i);conv=>whnf)|refine⟨λ_=>?_,λ_=>?_⟩|fail
  rw[prB,h2]
theorem C.r7_Printable(s:List UInt8)(hs:s.length<=4611686018427387904):Pure Tryz.prog N.bt_ref07_Printable [.d (.str s)] (.d (.bool (prB s))):=by
 refine F.bt_ref07_Printable.go mixed rfl ?_
 repeat' first|refine st ?_|((with_reducible apply go_i);conv=>whnf)|refine⟨λ_=>?_,λ_=>?_⟩|fail
 refine x_loop1 mixed Lt.bt_ref07_Printable_l0 Lk.bt_ref07_Printable_l0 (λ(i:Nat)=>[.d (eI i)]) (λi=>[]) (λi=>i<=s.length/\(s.take i).all prC=true) (λi=>s.length-i) 0 rfl rfl rfl rfl (λ_ _=>⟨rfl,rfl⟩) rfl ⟨by omega,rfl⟩ ?_
 repeat' first|refine st ?_|((with_reducible apply go_i);conv=>whnf)|refine⟨λ_=>?_,λ_=>?_⟩|fail
 intro i ⟨h1,h2⟩
 cases hx:s[i]? with
 |some c=>
  have hlt:=(List.getElem?_eq_some_iff.1 hx).1
  have hg:s.getD ((i:Int)).toNat 0=c:=by simp[List.getD_eq_getElem?_getD,hx]
  repeat' first|refine st ?_|((with_reducible apply go_i);conv=>whnf)|refine⟨λ_=>?_,λ_=>?_⟩|fail
  ·rename_i h
   rw[hg] at h
   rw[prB,all_none hx (decide_eq_false (by omega))]
  ·rename_i h h'
   rw[hg] at h h'
   rw[prB,all_none hx (decide_eq_false (by omega))]
  ·rename_i h h'
   rw[hg] at h h'
   refine⟨i+1,rfl,rfl,rfl,by omega,by omega,?_⟩
   rw[all_take_succ hx,h2,prC,decide_eq_true (by omega)];rfl
 |none=>
  have hge:=List.getElem?_eq_none_iff.1 hx
  rw[List.take_of_length_le hge] at h2
  repeat' first|refine st ?_|((with_reducible apply go_i);conv=>whnf)|refine⟨λ_=>?_,λ_=>?_⟩|fail
  rw[prB,h2]
theorem C.value_Valid(v:Vl)(hs:v.s.length<=4611686018427387904):Pure Tryz.prog N.value_Valid [eV v] (.d (.bool (vValid v))):=by
 refine F.value_Valid.go mixed rfl ?_
 have hP:=C.value_printable v.s hs
 repeat' first|refine st ?_|((with_reducible apply go_i);conv=>whnf)|refine⟨λ_=>?_,λ_=>?_⟩|fail
 all_goals (simp_all[vValid]<;>omega)
theorem C.r7_Valid(v:Vl)(hs:v.s.length<=4611686018427387904):Pure Tryz.prog N.bt_ref07_Valid [eV v] (.d (.bool (vValid v))):=by
 refine F.bt_ref07_Valid.go mixed rfl ?_
 have hP:=C.r7_Printable v.s hs
 repeat' first|refine st ?_|((with_reducible apply go_i);conv=>whnf)|refine⟨λ_=>?_,λ_=>?_⟩|fail
 all_goals (simp_all[vValid]<;>omega)
theorem C.value_Null:Pure Tryz.prog N.value_Null [] (eV vNull):=by
 refine F.value_Null.go mixed rfl ?_
 repeat' first|refine st ?_|((with_reducible apply go_i);conv=>whnf)|refine⟨λ_=>?_,λ_=>?_⟩|fail
 all_goals rfl
theorem C.r7_Null:Pure Tryz.prog N.bt_ref07_Null [] (eV vNull):=by
 refine F.bt_ref07_Null.go mixed rfl ?_
 repeat' first|refine st ?_|((with_reducible apply go_i);conv=>whnf)|refine⟨λ_=>?_,λ_=>?_⟩|fail
 all_goals rfl
def vBool(b:Bool):Vl:=⟨3,if b then 1 else 0,[]⟩
theorem C.value_Bool(b:Bool):Pure Tryz.prog N.value_Bool [.d (.bool b)] (eV (vBool b)):=by
 refine F.value_Bool.go mixed rfl ?_
 repeat' first|refine st ?_|((with_reducible apply go_i);conv=>whnf)|refine⟨λ_=>?_,λ_=>?_⟩|fail
 all_goals simp_all[vBool]
theorem C.r7_Bool(b:Bool):Pure Tryz.prog N.bt_ref07_Bool [.d (.bool b)] (eV (vBool b)):=by
 refine F.bt_ref07_Bool.go mixed rfl ?_
 repeat' first|refine st ?_|((with_reducible apply go_i);conv=>whnf)|refine⟨λ_=>?_,λ_=>?_⟩|fail
 all_goals simp_all[vBool]
def vOrN(v:Vl):Vl:=if vValid v then v else vNull
theorem C.value_orNull(v:Vl)(hs:v.s.length<=4611686018427387904):Pure Tryz.prog N.value_orNull [eV v] (eV (vOrN v)):=by
 refine F.value_orNull.go mixed rfl ?_
 have hV:=C.value_Valid v hs
 repeat' first|refine st ?_|((with_reducible apply go_i);conv=>whnf)|((with_reducible first|apply k_pn|apply k_pc);(·exact C.value_Null))|refine⟨λ_=>?_,λ_=>?_⟩|fail
 all_goals simp_all[vOrN]
theorem C.r7_valid(v:Vl)(hs:v.s.length<=4611686018427387904):Pure Tryz.prog N.bt_ref07_valid [eV v] (eV (vOrN v)):=by
 refine F.bt_ref07_valid.go mixed rfl ?_
 have hV:=C.r7_Valid v hs
 repeat' first|refine st ?_|((with_reducible apply go_i);conv=>whnf)|((with_reducible first|apply k_pn|apply k_pc);(·exact C.r7_Null))|refine⟨λ_=>?_,λ_=>?_⟩|fail
 all_goals simp_all[vOrN]
def vInt(n:Int):Vl:=vOrN ⟨1,n,[]⟩
def vText(s:List UInt8):Vl:=vOrN ⟨2,0,s⟩
theorem C.value_Int(n:Int):Pure Tryz.prog N.value_Int [.d (eI n)] (eV (vInt n)):=by
 refine F.value_Int.go mixed rfl ?_
 have hV:=C.value_orNull ⟨1,n,[]⟩ (by simp)
 repeat' first|refine st ?_|((with_reducible apply go_i);conv=>whnf)|refine⟨λ_=>?_,λ_=>?_⟩|fail
 all_goals rfl
theorem C.r7_Int(n:Int):Pure Tryz.prog N.bt_ref07_Int [.d (eI n)] (eV (vInt n)):=by
 refine F.bt_ref07_Int.go mixed rfl ?_
 have hV:=C.r7_valid ⟨1,n,[]⟩ (by simp)
 repeat' first|refine st ?_|((with_reducible apply go_i);conv=>whnf)|refine⟨λ_=>?_,λ_=>?_⟩|fail
 all_goals rfl
theorem C.value_Text(s:List UInt8)(hs:s.length<=4611686018427387904):Pure Tryz.prog N.value_Text [.d (.str s)] (eV (vText s)):=by
 refine F.value_Text.go mixed rfl ?_
 have hV:=C.value_orNull ⟨2,0,s⟩ hs
 repeat' first|refine st ?_|((with_reducible apply go_i);conv=>whnf)|refine⟨λ_=>?_,λ_=>?_⟩|fail
 all_goals rfl
theorem C.r7_Text(s:List UInt8)(hs:s.length<=4611686018427387904):Pure Tryz.prog N.bt_ref07_Text [.d (.str s)] (eV (vText s)):=by
 refine F.bt_ref07_Text.go mixed rfl ?_
 have hV:=C.r7_valid ⟨2,0,s⟩ hs
 repeat' first|refine st ?_|((with_reducible apply go_i);conv=>whnf)|refine⟨λ_=>?_,λ_=>?_⟩|fail
 all_goals rfl
end Go.Proofs
end
section
namespace Go.Proofs
open Go.Bi
attribute [local irreducible] Go.Utf8.decode
end Go.Proofs
end
section
namespace Go.Proofs
open Go.Bi
theorem cmpI_eq{a b:Int}:cmpI a b=0↔a=b:=by unfold cmpI;split<;>(try split)<;>omega
theorem cmpB_less:∀(a b:List UInt8),Op.bytesLess a b=decide (cmpB a b<0)/\Op.bytesLess b a=decide (0<cmpB a b)/\(cmpB a b=0↔a=b)/\(cmpB a b=-1\/cmpB a b=0\/cmpB a b=1)
 |[],[]=>by simp[Op.bytesLess,cmpB,Lib.compareBytes]
 |[],_::_=>by simp[Op.bytesLess,cmpB,Lib.compareBytes]
 |_::_,[]=>by simp[Op.bytesLess,cmpB,Lib.compareBytes]
 |x::a,y::b=>by
  obtain⟨h1,h2,h3,h4⟩:=cmpB_less a b
  simp only[Op.bytesLess,cmpB,Lib.compareBytes] at *
  by_cases hxy:x<y
  ·have h5:¬y<x:=by intro h;exact absurd (UInt8.lt_trans hxy h) (UInt8.lt_irrefl x)
   have h6:x≠y:=by intro h;rw[h] at hxy;exact UInt8.lt_irrefl y hxy
   simp[hxy,h5,h6,Ne.symm h6]
  ·by_cases hyx:y<x
   ·have h6:x≠y:=by intro h;rw[h] at hyx;exact UInt8.lt_irrefl y hyx
    simp[hxy,hyx,h6,Ne.symm h6]
   ·have h6:x=y:=UInt8.le_antisymm (UInt8.not_lt.1 hyx) (UInt8.not_lt.1 hxy)
    subst h6
    simp only[UInt8.lt_irrefl,decide_false,Bool.false_or,beq_self_eq_true,Bool.true_and,if_false,h1,h2,List.cons.injEq,true_and]
    exact⟨h3,h4⟩
def vCmp(a b:Vl):Int:=or3 (cmpI a.k b.k) (cmpI a.n b.n) (cmpB a.s b.s)
theorem C.value_Compare(a b:Vl):Pure Tryz.prog N.value_Compare [eV a,eV b] (.d (eI (vCmp a b))):=by
 refine F.value_Compare.go mixed rfl ?_
 repeat' first|refine st ?_|((with_reducible apply go_i);conv=>whnf)|((with_reducible first|apply k_pn|apply k_pc);(·first|exact C.cmp_Compare _ _|exact C.strings_Compare _ _|exact C.cmp_Or _ _ _))|refine⟨λ_=>?_,λ_=>?_⟩|fail
 all_goals rfl
def sgn(l g:Bool):Int:=if l then -1 else if g then 1 else 0
theorem C.r7_sign(l g:Bool):Pure Tryz.prog N.bt_ref07_sign [.d (.bool l),.d (.bool g)] (.d (eI (sgn l g))):=by
 refine F.bt_ref07_sign.go mixed rfl ?_
 repeat' first|refine st ?_|((with_reducible apply go_i);conv=>whnf)|refine⟨λ_=>?_,λ_=>?_⟩|fail
 all_goals simp_all[sgn]
theorem C.r7_Compare(a b:Vl):Pure Tryz.prog N.bt_ref07_Compare [eV a,eV b] (.d (eI (vCmp a b))):=by
 refine F.bt_ref07_Compare.go mixed rfl ?_
 repeat' first|refine st ?_|((with_reducible apply go_i);conv=>whnf)|((with_reducible first|apply k_pn|apply k_pc);(·exact C.r7_sign _ _))|refine⟨λ_=>?_,λ_=>?_⟩|fail
 ·rename_i h1 h2
  have e1:=cmpI_eq.2 h1
  have e2:=cmpI_eq.2 h2
  obtain⟨h3,h4,h5,h6⟩:=cmpB_less a.s b.s
  rw[vCmp,or3,e1,e2]
  simp only[h3,h4,sgn,decide_eq_true_eq]
  congr 2
  rcases h6 with h|h|h
  ·rw[h];rfl
  ·rw[h,decide_eq_true (h5.1 h)];rfl
  ·have hne:decide (a.s=b.s)=false:=decide_eq_false (λe=>by rw[h5.2 e] at h;cases h)
   rw[h,hne];rfl
 ·rename_i h1 h2
  have e1:=cmpI_eq.2 h1
  rw[vCmp,or3,e1,if_neg (by simp),if_pos (λe=>h2 (cmpI_eq.1 e)),sgn,cmpI]
  simp
 ·rename_i h1
  rw[vCmp,or3,if_pos (λe=>h1 (cmpI_eq.1 e)),sgn,cmpI]
  simp
def vDec(a b:Vl)(is:Bool):Int:=if a.k=0\/a.k≠b.k then 1 else if is then 2 else 0
theorem C.value_decide(a b:Vl)(is:Bool):Pure Tryz.prog N.value_decide [eV a,eV b,.d (.bool is)] (.d (eI (vDec a b is))):=by
 refine F.value_decide.go mixed rfl ?_
 repeat' first|refine st ?_|((with_reducible apply go_i);conv=>whnf)|refine⟨λ_=>?_,λ_=>?_⟩|fail
 all_goals simp_all[vDec]
theorem C.r7_truth(a b:Vl)(is:Bool):Pure Tryz.prog N.bt_ref07_truth [eV a,eV b,.d (.bool is)] (.d (eI (vDec a b is))):=by
 refine F.bt_ref07_truth.go mixed rfl ?_
 repeat' first|refine st ?_|((with_reducible apply go_i);conv=>whnf)|refine⟨λ_=>?_,λ_=>?_⟩|fail
 all_goals simp_all[vDec]
def vEq(a b:Vl):Int:=vDec a b (decide (vCmp a b=0))
def vLess(a b:Vl):Int:=vDec a b (decide (vCmp a b<0))
theorem C.value_Equal(a b:Vl):Pure Tryz.prog N.value_Equal [eV a,eV b] (.d (eI (vEq a b))):=by
 refine F.value_Equal.go mixed rfl ?_
 repeat' first|refine st ?_|((with_reducible apply go_i);conv=>whnf)|((with_reducible first|apply k_pn|apply k_pc);(·first|exact C.value_Compare _ _|exact C.value_decide _ _ _))|refine⟨λ_=>?_,λ_=>?_⟩|fail
 all_goals rfl
theorem C.r7_Equal(a b:Vl):Pure Tryz.prog N.bt_ref07_Equal [eV a,eV b] (.d (eI (vEq a b))):=by
 refine F.bt_ref07_Equal.go mixed rfl ?_
 repeat' first|refine st ?_|((with_reducible apply go_i);conv=>whnf)|((with_reducible first|apply k_pn|apply k_pc);(·first|exact C.r7_Compare _ _|exact C.r7_truth _ _ _))|refine⟨λ_=>?_,λ_=>?_⟩|fail
 all_goals rfl
theorem C.value_Less(a b:Vl):Pure Tryz.prog N.value_Less [eV a,eV b] (.d (eI (vLess a b))):=by
 refine F.value_Less.go mixed rfl ?_
 repeat' first|refine st ?_|((with_reducible apply go_i);conv=>whnf)|((with_reducible first|apply k_pn|apply k_pc);(·first|exact C.value_Compare _ _|exact C.value_decide _ _ _))|refine⟨λ_=>?_,λ_=>?_⟩|fail
 all_goals rfl
theorem C.r7_Less(a b:Vl):Pure Tryz.prog N.bt_ref07_Less [eV a,eV b] (.d (eI (vLess a b))):=by
 refine F.bt_ref07_Less.go mixed rfl ?_
 repeat' first|refine st ?_|((with_reducible apply go_i);conv=>whnf)|((with_reducible first|apply k_pn|apply k_pc);(·first|exact C.r7_Compare _ _|exact C.r7_truth _ _ _))|refine⟨λ_=>?_,λ_=>?_⟩|fail
 all_goals rfl
def tNorm(t:Int):Int:=if t=0\/t=2 then t else 1
theorem tNorm_is(t:Int):tNorm t=0\/tNorm t=1\/tNorm t=2:=by unfold tNorm;split<;>omega
theorem C.value_normal(t:Int):Pure Tryz.prog N.value_normal [.d (eI t)] (.d (eI (tNorm t))):=by
 refine F.value_normal.go mixed rfl ?_
 repeat' first|refine st ?_|((with_reducible apply go_i);conv=>whnf)|refine⟨λ_=>?_,λ_=>?_⟩|fail
 all_goals simp_all[tNorm]
def tNot(t:Int):Int:=2-tNorm t
theorem C.value_Not(t:Int):Pure Tryz.prog N.value_Not [.d (eI t)] (.d (eI (tNot t))):=by
 refine F.value_Not.go mixed rfl ?_
 have:=tNorm_is t
 repeat' first|refine st ?_|((with_reducible apply go_i);conv=>whnf)|((with_reducible first|apply k_pn|apply k_pc);(·exact C.value_normal _))|refine⟨λ_=>?_,λ_=>?_⟩|fail
 all_goals rfl
theorem C.r7_Not(t:Int):Pure Tryz.prog N.bt_ref07_Not [.d (eI t)] (.d (eI (tNot t))):=by
 refine F.bt_ref07_Not.go mixed rfl ?_
 repeat' first|refine st ?_|((with_reducible apply go_i);conv=>whnf)|refine⟨λ_=>?_,λ_=>?_⟩|fail
 all_goals simp_all[tNot,tNorm]
def tAnd(a b:Int):Int:=min (min 2 (tNorm a)) (tNorm b)
def tOr(a b:Int):Int:=tNot (tAnd (tNot a) (tNot b))
theorem C.value_least(a b:Int):Pure Tryz.prog N.value_least [.d (.sl [[eI a],[eI b]])] (.d (eI (tAnd a b))):=by
 refine F.value_least.go mixed rfl ?_
 repeat' first|refine st ?_|((with_reducible apply go_i);conv=>whnf)|refine⟨λ_=>?_,λ_=>?_⟩|fail
 refine x_loop2 mixed Lt.value_least_l0 Lk.value_least_l0 (λ(i:Nat) (t:Int)=>[.d (eI t),.d (eI i)]) (λi t=>[]) (λi t=>(i=0/\t=2)\/(i=1/\t=min 2 (tNorm a))\/(i=2/\t=tAnd a b)) (λi _=>2-i) 0 2 rfl rfl rfl rfl (λ_ _ _=>⟨rfl,rfl⟩) rfl (.inl ⟨rfl,rfl⟩) ?_
 repeat' first|refine st ?_|((with_reducible apply go_i);conv=>whnf)|refine⟨λ_=>?_,λ_=>?_⟩|fail
 intro i t h1
 have hl3:([[eI a],[eI b]]:List (List D)).length=2:=rfl
 have hm:∀e∈([[eI a],[eI b]]:List (List D)),e.length=1:=by intro e he;simp at he;rcases he with rfl|rfl<;>rfl
 rcases h1 with ⟨rfl,rfl⟩|⟨rfl,rfl⟩|⟨rfl,rfl⟩
 ·have hg:([[eI a],[eI b]]:List (List D))[((0:Nat):Int).toNat]?=some [eI a]:=rfl
  repeat' first|refine st ?_|((with_reducible apply go_i);conv=>whnf)|((with_reducible first|apply k_pn|apply k_pc);(·exact C.value_normal _))|refine⟨λ_=>?_,λ_=>?_⟩|fail
  exact⟨1,_,rfl,rfl,rfl,by omega,.inr (.inl ⟨rfl,rfl⟩)⟩
 ·have hg:([[eI a],[eI b]]:List (List D))[((1:Nat):Int).toNat]?=some [eI b]:=rfl
  repeat' first|refine st ?_|((with_reducible apply go_i);conv=>whnf)|((with_reducible first|apply k_pn|apply k_pc);(·exact C.value_normal _))|refine⟨λ_=>?_,λ_=>?_⟩|fail
  exact⟨2,_,rfl,rfl,rfl,by omega,.inr (.inr ⟨rfl,rfl⟩)⟩
 ·repeat' first|refine st ?_|((with_reducible apply go_i);conv=>whnf)|refine⟨λ_=>?_,λ_=>?_⟩|fail
theorem C.value_And(a b:Int):Pure Tryz.prog N.value_And [.d (eI a),.d (eI b)] (.d (eI (tAnd a b))):=by
 refine F.value_And.go mixed rfl ?_
 repeat' first|refine st ?_|((with_reducible apply go_i);conv=>whnf)|((with_reducible first|apply k_pn|apply k_pc);(·exact C.value_least _ _))|refine⟨λ_=>?_,λ_=>?_⟩|fail
theorem C.value_Or(a b:Int):Pure Tryz.prog N.value_Or [.d (eI a),.d (eI b)] (.d (eI (tOr a b))):=by
 refine F.value_Or.go mixed rfl ?_
 repeat' first|refine st ?_|((with_reducible apply go_i);conv=>whnf)|((with_reducible first|apply k_pn|apply k_pc);(·first|exact C.value_Not _|exact C.value_least _ _))|refine⟨λ_=>?_,λ_=>?_⟩|fail
 all_goals rfl
theorem C.r7_And(a b:Int):Pure Tryz.prog N.bt_ref07_And [.d (eI a),.d (eI b)] (.d (eI (tAnd a b))):=by
 refine F.bt_ref07_And.go mixed rfl ?_
 repeat' first|refine st ?_|((with_reducible apply go_i);conv=>whnf)|refine⟨λ_=>?_,λ_=>?_⟩|fail
 all_goals (simp only[tAnd,tNorm,AV.d.injEq,D.int.injEq,true_and];split<;>split<;>omega)
theorem C.r7_Or(a b:Int):Pure Tryz.prog N.bt_ref07_Or [.d (eI a),.d (eI b)] (.d (eI (tOr a b))):=by
 refine F.bt_ref07_Or.go mixed rfl ?_
 have key:∀x y:Int,tOr x y=if x=2\/y=2 then 2 else if x=0/\y=0 then 0 else 1:=by
  intro x y
  by_cases x0:x=0<;>by_cases x2:x=2<;>by_cases y0:y=0<;>by_cases y2:y=2<;>simp[tOr,tAnd,tNot,tNorm,x0,x2,y0,y2]<;>omega
 rw[key]
 repeat' first|refine st ?_|((with_reducible apply go_i);conv=>whnf)|refine⟨λ_=>?_,λ_=>?_⟩|fail
 all_goals (simp only[AV.d.injEq,D.int.injEq,true_and];(repeat' split)<;>omega)
def vTruth(v:Vl):Int:=if v=vBool true then 2 else if v=vBool false then 0 else 1
theorem vl_eq{v w:Vl}:v=w↔(v.k=w.k/\v.n=w.n/\v.s=w.s):=by cases v;cases w;simp
theorem vTruth_is(v:Vl):vTruth v=if v.k=3/\v.n=1/\v.s=[] then 2 else if v.k=3/\v.n=0/\v.s=[] then 0 else 1:=by
 simp only[vTruth,vl_eq,vBool,if_true,Bool.false_eq_true,if_false]
theorem C.value_Truth(v:Vl):Pure Tryz.prog N.value_Truth [eV v] (.d (eI (vTruth v))):=by
 refine F.value_Truth.go mixed rfl ?_
 rw[vTruth_is]
 repeat' first|refine st ?_|((with_reducible apply go_i);conv=>whnf)|((with_reducible first|apply k_pn|apply k_pc);(·exact C.value_Bool _))|refine⟨λ_=>?_,λ_=>?_⟩|fail
 all_goals (simp_all[vBool])
theorem C.r7_Truth(v:Vl):Pure Tryz.prog N.bt_ref07_Truth [eV v] (.d (eI (vTruth v))):=by
 refine F.bt_ref07_Truth.go mixed rfl ?_
 rw[vTruth_is]
 repeat' first|refine st ?_|((with_reducible apply go_i);conv=>whnf)|((with_reducible first|apply k_pn|apply k_pc);(·exact C.r7_Bool _))|refine⟨λ_=>?_,λ_=>?_⟩|fail
 all_goals (simp_all[vBool])
def vOf(t:Int):Vl:=if t=2 then vBool true else if t=0 then vBool false else vNull
theorem C.value_Of(t:Int):Pure Tryz.prog N.value_Of [.d (eI t)] (eV (vOf t)):=by
 refine F.value_Of.go mixed rfl ?_
 repeat' first|refine st ?_|((with_reducible apply go_i);conv=>whnf)|((with_reducible first|apply k_pn|apply k_pc);(·first|exact C.value_normal _|exact C.value_Null|exact C.value_Bool _))|refine⟨λ_=>?_,λ_=>?_⟩|fail
 all_goals (by_cases h0:t=0<;>by_cases h2:t=2<;>simp_all[tNorm,vOf,vNull,vBool])
theorem C.r7_Of(t:Int):Pure Tryz.prog N.bt_ref07_Of [.d (eI t)] (eV (vOf t)):=by
 refine F.bt_ref07_Of.go mixed rfl ?_
 repeat' first|refine st ?_|((with_reducible apply go_i);conv=>whnf)|((with_reducible first|apply k_pn|apply k_pc);(·first|exact C.r7_Null|exact C.r7_Bool _))|refine⟨λ_=>?_,λ_=>?_⟩|fail
 all_goals simp_all[vOf,vNull,vBool]
def eVs(l:List Vl):List (List D):=l.map Vl.ds
theorem eVs_len(l:List Vl):(eVs l).length=l.length:=by simp[eVs]
theorem eVs_get{l:List Vl}{i:Nat}{v:Vl}(h:l[i]?=some v):(eVs l)[i]?=some v.ds:=by simp[eVs,h]
theorem eVs_mem(l:List Vl):∀e∈eVs l,e.length=3:=by
 intro e he
 obtain⟨x,_,rfl⟩:=List.mem_map.1 he
 rfl
def vAt(l:List Vl)(i:Int):Vl:=if i<0\/(l.length:Int)<=i then vNull else l.getD i.toNat vNull
theorem vAt_get{l:List Vl}{i:Int}(h:¬i<0)(h2:¬(l.length:Int)<=i):l[i.toNat]?=some (vAt l i):=by
 rw[vAt,if_neg (by omega),List.getD_eq_getElem?_getD,List.getElem?_eq_getElem (by omega)];rfl
theorem C.r8_At(l:List Vl)(hl:l.length<=4611686018427387904)(d:D)(hd:SlD d (eVs l))(i:Int):Pure Tryz.prog N.bt_ref08_At [.d d,.d (eI i)] (eV (vAt l i)):=by
 refine F.bt_ref08_At.go mixed rfl ?_
 have h1:=eVs_len l
 have hm:=eVs_mem l
 by_cases hi:i<0
 ·have e:vAt l i=vNull:=if_pos (.inl hi)
  rw[e]
  repeat' first|refine st ?_|((with_reducible apply go_i);conv=>whnf)|((with_reducible first|apply k_pn|apply k_pc);(·exact C.r7_Null))|refine⟨λ_=>?_,λ_=>?_⟩|fail
 ·by_cases hi2:(l.length:Int)<=i
  ·have e:vAt l i=vNull:=if_pos (.inr hi2)
   rw[e]
   repeat' first|refine st ?_|((with_reducible apply go_i);conv=>whnf)|((with_reducible first|apply k_pn|apply k_pc);(·exact C.r7_Null))|refine⟨λ_=>?_,λ_=>?_⟩|fail
  ·have hg:=eVs_get (vAt_get hi hi2)
   repeat' first|refine st ?_|((with_reducible apply go_i);conv=>whnf)|refine⟨λ_=>?_,λ_=>?_⟩|fail
theorem C.tuple_at(l:List Vl)(hl:l.length<=4611686018427387904)(d:D)(hd:SlD d (eVs l))(i:Int):Pure Tryz.prog N.tuple_at [.d d,.d (eI i)] (eV (vAt l i)):=by
 refine F.tuple_at.go mixed rfl ?_
 have h1:=eVs_len l
 have hm:=eVs_mem l
 by_cases hi:i<0
 ·have e:vAt l i=vNull:=if_pos (.inl hi)
  rw[e]
  repeat' first|refine st ?_|((with_reducible apply go_i);conv=>whnf)|((with_reducible first|apply k_pn|apply k_pc);(·exact C.value_Null))|refine⟨λ_=>?_,λ_=>?_⟩|fail
 ·by_cases hi2:(l.length:Int)<=i
  ·have e:vAt l i=vNull:=if_pos (.inr hi2)
   rw[e]
   repeat' first|refine st ?_|((with_reducible apply go_i);conv=>whnf)|((with_reducible first|apply k_pn|apply k_pc);(·exact C.value_Null))|refine⟨λ_=>?_,λ_=>?_⟩|fail
  ·have hg:=eVs_get (vAt_get hi hi2)
   repeat' first|refine st ?_|((with_reducible apply go_i);conv=>whnf)|refine⟨λ_=>?_,λ_=>?_⟩|fail
theorem C.tuple_Pick1(l:List Vl)(hl:l.length<=4611686018427387904)(d:D)(hd:SlD d (eVs l))(i:Int):Pure Tryz.prog N.tuple_Pick [.d d,.d (.sl [[eI i]])] (.d (.sl [(vAt l i).ds])):=by
 refine F.tuple_Pick.go mixed rfl ?_
 have hA:=C.tuple_at l hl d hd i
 repeat' first|refine st ?_|((with_reducible apply go_i);conv=>whnf)|refine⟨λ_=>?_,λ_=>?_⟩|fail
 refine x_loop2 mixed Lt.tuple_Pick_l0 Lk.tuple_Pick_l0 (λ(i:Nat) (es:List (List D))=>[.arr 0 es.length,.d (eI i)]) (λi es=>[.arr es 3 0 false]) (λk es=>(k=0/\es=[])\/(k=1/\es=[(vAt l i).ds])) (λi _=>1-i) 0 [] rfl rfl rfl rfl (λ_ _ _=>⟨rfl,rfl⟩) rfl (.inl ⟨rfl,rfl⟩) ?_
 repeat' first|refine st ?_|((with_reducible apply go_i);conv=>whnf)|refine⟨λ_=>?_,λ_=>?_⟩|fail
 intro k es h1
 have hl3:([[eI i]]:List (List D)).length=1:=rfl
 have hm:∀e∈([[eI i]]:List (List D)),e.length=1:=by intro e he;simp at he;rcases he with rfl;rfl
 rcases h1 with ⟨rfl,rfl⟩|⟨rfl,rfl⟩
 ·have hg:([[eI i]]:List (List D))[((0:Nat):Int).toNat]?=some [eI i]:=rfl
  repeat' first|refine st ?_|((with_reducible apply go_i);conv=>whnf)|refine⟨λ_=>?_,λ_=>?_⟩|fail
  exact⟨1,_,rfl,rfl,rfl,by omega,.inr ⟨rfl,rfl⟩⟩
 ·repeat' first|refine st ?_|((with_reducible apply go_i);conv=>whnf)|refine⟨λ_=>?_,λ_=>?_⟩|fail
  rfl
end Go.Proofs
end
section
namespace Go.Proofs
open Go.Bi
structure Co where
 nm:List UInt8
 k:Int
 nl:Bool
abbrev Co.ds(c:Co):List D:=[.str c.nm,eI c.k,.bool c.nl]
def kd(l:List Co):List Int:=l.map Co.k
def Kt(l:List Co)(i:Nat):List (List D):=eIs (kd (l.take i))
end Go.Proofs
end
section
namespace Go.Proofs
open Go.Bi
def acF:List Vl->List Co->Int
 |v::r,c::l=>if vValid v=false then 8 else if v.k=0 then (if c.nl then acF r l else 12) else if v.k=c.k then acF r l else 7
 |_,_=>0
def acc(row:List Vl)(cols:List Co):Int:=if row.length=cols.length then acF row cols else 13
end Go.Proofs
end
section
namespace Go.Proofs
open Go.Bi
def pick(row:List Vl)(ks:List Int):List Vl:=ks.map (vAt row)
def Pt(row:List Vl)(ks:List Int)(i:Nat):List (List D):=eVs (pick row (ks.take i))
theorem Pt_len(row:List Vl)(ks:List Int)(i:Nat)(h:i<=ks.length):(Pt row ks i).length=i:=by
 unfold Pt pick
 rw[eVs_len,List.length_map,List.length_take]
 omega
theorem Pt_succ{row:List Vl}{ks:List Int}{i:Nat}{k:Int}(h:ks[i]?=some k):Pt row ks i++[(vAt row k).ds]=Pt row ks (i+1):=by
 unfold Pt pick
 rw[List.take_add_one,h]
 simp[eVs]
theorem Pt_end{row:List Vl}{ks:List Int}{i:Nat}(h:ks.length<=i):Pt row ks i=eVs (pick row ks):=by
 unfold Pt
 rw[List.take_of_length_le h]
theorem C.tuple_Pick(row:List Vl)(hr:row.length<=1048576)(dr:D)(hdr:SlD dr (eVs row))(ks:List Int)(hk:ks.length<=1048576)(dk:D)(hdk:SlD dk (eIs ks)):Pure Tryz.prog N.tuple_Pick [.d dr,.d dk] (.d (.sl (eVs (pick row ks)))):=by
 refine F.tuple_Pick.go mixed rfl ?_
 have h1:=eIs_len ks
 have hm:=eIs_mem ks
 have hb:0<=((eIs ks).length:Int)/\((eIs ks).length:Int)*32<=140737488355328/\((eIs ks).length:Int)<=9223372036854775807:=by omega
 repeat' first|refine st ?_|refine⟨λ_=>?_,λ_=>?_⟩|fail
 refine x_loop2 mixed Lt.tuple_Pick_l0 Lk.tuple_Pick_l0 (λ(i:Nat) (A:List (List D))=>[.arr 0 A.length,.d (eI i)]) (λi A=>[.arr A 3 0 false]) (λi A=>i<=ks.length/\A=Pt row ks i) (λi _=>ks.length-i) 0 [] rfl rfl rfl rfl (λ_ _ _=>⟨rfl,rfl⟩) rfl ⟨by omega,rfl⟩ ?_
 repeat' first|refine st ?_|refine⟨λ_=>?_,λ_=>?_⟩|fail
 intro i A ⟨h4,h5⟩
 have hAl:A.length=i:=by rw[h5];exact Pt_len row ks i (by omega)
 have hAm:∀e∈A,e.length=3:=by rw[h5];exact eVs_mem _
 cases hx:ks[i]? with
 |some k=>
  have hlt:=(List.getElem?_eq_some_iff.1 hx).1
  have hs:=Pt_succ (row:=row) hx
  have hg:=eIs_get hx
  have hA:=C.tuple_at row (by omega) dr hdr k
  rw[<- h5] at hs
  obtain⟨v,hv⟩:∃v,v=vAt row k:=⟨_,rfl⟩
  rw[<- hv] at hA hs
  repeat' first|refine st ?_|refine⟨λ_=>?_,λ_=>?_⟩|fail
  exact⟨i+1,A++[v.ds],rfl,rfl,rfl,by omega,by omega,hs⟩
 |none=>
  have hge:=List.getElem?_eq_none_iff.1 hx
  rw[Pt_end hge] at h5
  rw[<- h5]
  repeat' first|refine st ?_|refine⟨λ_=>?_,λ_=>?_⟩|fail
  all_goals rfl
theorem C.r8_Pick(row:List Vl)(hr:row.length<=1048576)(dr:D)(hdr:SlD dr (eVs row))(ks:List Int)(hk:ks.length<=1048576)(dk:D)(hdk:SlD dk (eIs ks)):Pure Tryz.prog N.bt_ref08_Pick [.d dr,.d dk] (.d (.sl (eVs (pick row ks)))):=by
 refine F.bt_ref08_Pick.go mixed rfl ?_
 have h1:=eIs_len ks
 have hm:=eIs_mem ks
 repeat' first|refine st ?_|refine⟨λ_=>?_,λ_=>?_⟩|fail
 refine x_loop2 mixed Lt.bt_ref08_Pick_l0 Lk.bt_ref08_Pick_l0 (λ(i:Nat) (A:List (List D))=>[.arr 0 A.length,.d (eI i)]) (λi A=>[.arr A 3 0 false]) (λi A=>i<=ks.length/\A=Pt row ks i) (λi _=>ks.length-i) 0 [] rfl rfl rfl rfl (λ_ _ _=>⟨rfl,rfl⟩) rfl ⟨by omega,rfl⟩ ?_
 repeat' first|refine st ?_|refine⟨λ_=>?_,λ_=>?_⟩|fail
 intro i A ⟨h4,h5⟩
 have hAl:A.length=i:=by rw[h5];exact Pt_len row ks i (by omega)
 have hAm:∀e∈A,e.length=3:=by rw[h5];exact eVs_mem _
 cases hx:ks[i]? with
 |some k=>
  have hlt:=(List.getElem?_eq_some_iff.1 hx).1
  have hs:=Pt_succ (row:=row) hx
  have hg:=eIs_get hx
  have hA:=C.r8_At row (by omega) dr hdr k
  rw[<- h5] at hs
  obtain⟨v,hv⟩:∃v,v=vAt row k:=⟨_,rfl⟩
  rw[<- hv] at hA hs
  repeat' first|refine st ?_|refine⟨λ_=>?_,λ_=>?_⟩|fail
  exact⟨i+1,A++[v.ds],rfl,rfl,rfl,by omega,by omega,hs⟩
 |none=>
  have hge:=List.getElem?_eq_none_iff.1 hx
  rw[Pt_end hge] at h5
  rw[<- h5]
  repeat' first|refine st ?_|refine⟨λ_=>?_,λ_=>?_⟩|fail
  all_goals rfl
theorem C.r13_Ints_same(ks:List Int)(hk:ks.length<=1048576)(d d':D)(hd:SlD d (eIs ks))(hd':SlD d' (eIs ks)):Pure Tryz.prog N.bt_ref13_Ints [.d d,.d d'] (.d (.bool true)):=by
 refine F.bt_ref13_Ints.go mixed rfl ?_
 have h1:=eIs_len ks
 have hm:=eIs_mem ks
 repeat' first|refine st ?_|refine⟨λ_=>?_,λ_=>?_⟩|fail
 refine x_loop1 mixed Lt.bt_ref13_Ints_l0 Lk.bt_ref13_Ints_l0 (λ(i:Nat)=>[.d (eI i)]) (λi=>[]) (λi=>i<=ks.length) (λi=>ks.length-i) 0 rfl rfl rfl rfl (λ_ _=>⟨rfl,rfl⟩) rfl (Nat.zero_le _) ?_
 repeat' first|refine st ?_|refine⟨λ_=>?_,λ_=>?_⟩|fail
 intro i h4
 cases hx:ks[i]? with
 |some k=>
  have hlt:=(List.getElem?_eq_some_iff.1 hx).1
  have hg:=eIs_get hx
  repeat' first|refine st ?_|refine⟨λ_=>?_,λ_=>?_⟩|fail
  exact⟨i+1,rfl,rfl,rfl,by omega,by omega⟩
 |none=>
  have hge:=List.getElem?_eq_none_iff.1 hx
  repeat' first|refine st ?_|refine⟨λ_=>?_,λ_=>?_⟩|fail
  all_goals rfl
end Go.Proofs
end
section
namespace Go.Proofs
open Go.Bi
inductive Ex where
 |mk (op n:Int) (v:Vl) (name:List UInt8) (nl:Bool) (args:List Ex)
theorem Ex.ind{p:Ex->Prop}(h:∀op n v name nl args,(∀a∈args,p a)->p (.mk op n v name nl args)):∀e,p e
 |.mk op n v name nl args=>h _ _ _ _ _ _ λa ha=>Ex.ind h a
termination_by e=>SizeOf.sizeOf e
decreasing_by
 have:=List.sizeOf_lt_of_mem ha
 simp only[Ex.mk.sizeOf_spec]
 omega
def ng(nl:Bool)(l:List (List D)):D:=if nl&&l.isEmpty then .nil else .sl l
theorem sld_ng{nl:Bool}{l:List (List D)}:SlD (ng nl l) l:=by
 unfold ng
 split
 ·rename_i h
  simp only[Bool.and_eq_true,List.isEmpty_iff] at h
  exact .inl ⟨rfl,h.2⟩
 ·exact .inr rfl
abbrev xds(op n:Int)(v:Vl)(name:List UInt8)(d:D):List D:=[eI op,eI n,eI v.k,eI v.n,.str v.s,.str name,d]
abbrev eX(op n:Int)(v:Vl)(name:List UInt8)(d:D):AV:=.agg [.d (eI op),.d (eI n),.d (eI v.k),.d (eI v.n),.d (.str v.s),.d (.str name),.d d]
mutual
def Ex.ds:Ex->List D
 |.mk op n v name nl args=>xds op n v name (ng nl (Ex.dss args))
def Ex.dss:List Ex->List (List D)
 |[]=>[]
 |e::es=>e.ds::Ex.dss es
end
theorem Ex.dss_eq:∀l,Ex.dss l=l.map Ex.ds
 |[]=>by simp[Ex.dss]
 |e::es=>by simp[Ex.dss,Ex.dss_eq es]
def xL(l:List Ex):List (List D):=l.map Ex.ds
theorem Ex.ds_mk(op n:Int)(v:Vl)(name:List UInt8)(nl:Bool)(args:List Ex):(Ex.mk op n v name nl args).ds=xds op n v name (ng nl (xL args)):=by
 rw[Ex.ds,Ex.dss_eq];rfl
def Ex.av(e:Ex):AV:=.agg (e.ds.map .d)
theorem Ex.av_mk(op n:Int)(v:Vl)(name:List UInt8)(nl:Bool)(args:List Ex):(Ex.mk op n v name nl args).av=eX op n v name (ng nl (xL args)):=by
 rw[Ex.av,Ex.ds_mk];rfl
theorem xL_len(l:List Ex):(xL l).length=l.length:=by simp[xL]
theorem xL_mem(l:List Ex):∀e∈xL l,e.length=7:=by
 intro e he
 obtain⟨⟨op,n,v,name,nl,args⟩,_,rfl⟩:=List.mem_map.1 he
 rw[Ex.ds_mk];rfl
theorem xL_get{l:List Ex}{i:Nat}{e:Ex}(h:l[i]?=some e):(xL l)[i]?=some e.ds:=by simp[xL,h]
def Ex.bk(e:Ex):Nat:=bulkL e.ds
theorem bulkLL_mem{l:List (List D)}{x:List D}(h:x∈l):bulkL x<=bulkLL l:=by
 induction l with
 |nil=>cases h
 |cons y l ih=>
  simp only[bulkLL]
  rcases List.mem_cons.1 h with rfl|h
  ·omega
  ·have:=ih h;omega
theorem bulkLL_len{l:List (List D)}(h:∀x∈l,1<=bulkL x):l.length<=bulkLL l:=by
 induction l with
 |nil=>exact Nat.zero_le _
 |cons y l ih=>
  have h1:=h y (by simp)
  have h2:=ih λx hx=>h x (by simp[hx])
  simp only[bulkLL,List.length_cons]
  omega
theorem Ex.bk_mk(op n:Int)(v:Vl)(name:List UInt8)(nl:Bool)(args:List Ex):bulkLL (xL args)+v.s.length+name.length+6<=(Ex.mk op n v name nl args).bk:=by
 rw[Ex.bk,Ex.ds_mk]
 simp only[bulkL,bulkD]
 unfold ng
 split
 ·rename_i h
  simp only[Bool.and_eq_true,List.isEmpty_iff] at h
  rw[h.2]
  simp only[bulkD,bulkLL]
  omega
 ·simp only[bulkD];omega
theorem Ex.bk_pos(e:Ex):6<=e.bk:=by
 obtain⟨op,n,v,name,nl,args⟩:=e
 have:=Ex.bk_mk op n v name nl args
 omega
theorem xL_bulk_len(l:List Ex):l.length<=bulkLL (xL l):=by
 rw[<- xL_len l]
 refine bulkLL_len λx hx=>?_
 obtain⟨e,_,rfl⟩:=List.mem_map.1 hx
 have:=e.bk_pos
 unfold Ex.bk at this
 omega
theorem Ex.bk_arg{op n:Int}{v:Vl}{name:List UInt8}{nl:Bool}{args:List Ex}{a:Ex}(h:a∈args):a.bk<(Ex.mk op n v name nl args).bk:=by
 have h1:=Ex.bk_mk op n v name nl args
 have h2:bulkL a.ds<=bulkLL (xL args):=bulkLL_mem (List.mem_map.2 ⟨a,h,rfl⟩)
 unfold Ex.bk at *
 omega
theorem Ex.bk_bounds{op n:Int}{v:Vl}{name:List UInt8}{nl:Bool}{args:List Ex}{B:Nat}(h:(Ex.mk op n v name nl args).bk<=B):args.length<=B/\v.s.length<=B/\name.length<=B/\∀a∈args,a.bk<=B:=by
 have h1:=Ex.bk_mk op n v name nl args
 have h2:=xL_bulk_len args
 exact⟨by omega,by omega,by omega,λa ha=>by have:=Ex.bk_arg (op:=op) (n:=n) (v:=v) (name:=name) (nl:=nl) ha;omega⟩
end Go.Proofs
end
section
namespace Go.Proofs
open Go.Bi
abbrev Row:=List Vl
def cmpR:Row->Row->Int
 |v::r,w::s=>if vCmp v w=0 then cmpR r s else vCmp v w
 |[],_::_=>-1
 |_::_,[]=>1
 |[],[]=>0
theorem cmpR_drop{a b:Row}{i:Nat}{v w:Vl}(h:a[i]?=some v)(g:b[i]?=some w):cmpR (a.drop i) (b.drop i)=if vCmp v w=0 then cmpR (a.drop (i+1)) (b.drop (i+1)) else vCmp v w:=by
 obtain⟨h1,h2⟩:=List.getElem?_eq_some_iff.1 h
 obtain⟨g1,g2⟩:=List.getElem?_eq_some_iff.1 g
 rw[List.drop_eq_getElem_cons h1,List.drop_eq_getElem_cons g1,h2,g2]
 rfl
theorem C.r8_Compare(a b:Row)(ha:a.length<=4194304)(hb:b.length<=4194304)(d1 d2:D)(h1:SlD d1 (eVs a))(h2:SlD d2 (eVs b)):Pure Tryz.prog N.bt_ref08_Compare [.d d1,.d d2] (.d (eI (cmpR a b))):=by
 have l1:=eVs_len a
 have l2:=eVs_len b
 have m1:=eVs_mem a
 have m2:=eVs_mem b
 have g1:=λi v=>@eVs_get a i v
 have g2:=λi v=>@eVs_get b i v
 obtain⟨es,hes⟩:∃z,z=eVs a:=⟨_,rfl⟩
 obtain⟨fs,hfs⟩:∃z,z=eVs b:=⟨_,rfl⟩
 rw[<- hes] at h1 l1 m1 g1
 rw[<- hfs] at h2 l2 m2 g2
 clear hes hfs
 obtain⟨q,hq⟩:∃q,q=cmpR a b:=⟨_,rfl⟩
 rw[<- hq]
 refine F.bt_ref08_Compare.go mixed rfl ?_
 repeat' first|refine st ?_|refine⟨λ_=>?_,λ_=>?_⟩|fail
 refine x_loop1 mixed Lt.bt_ref08_Compare_l0 Lk.bt_ref08_Compare_l0 (λ(i:Nat)=>[.d (eI i)]) (λi=>[]) (λi=>i<=a.length/\i<=b.length/\q=cmpR (a.drop i) (b.drop i)) (λi=>a.length-i) 0 rfl rfl rfl rfl (λ_ _=>⟨rfl,rfl⟩) rfl ⟨by omega,by omega,hq⟩ ?_
 repeat' first|refine st ?_|refine⟨λ_=>?_,λ_=>?_⟩|fail
 intro i ⟨i1,i2,i3⟩
 clear hq
 cases hx:a[i]? with
 |some v=>
  have hlt:=(List.getElem?_eq_some_iff.1 hx).1
  have hil:(i:Int)<es.length:=by omega
  cases hy:b[i]? with
  |some w=>
   have hlt2:=(List.getElem?_eq_some_iff.1 hy).1
   have hil2:(i:Int)<fs.length:=by omega
   have e1:es[((i:Nat):Int).toNat]?=some v.ds:=g1 i v hx
   have e2:fs[((i:Nat):Int).toNat]?=some w.ds:=g2 i w hy
   have hC:=C.r7_Compare v w
   rw[cmpR_drop hx hy] at i3
   obtain⟨c,hc⟩:∃c,c=vCmp v w:=⟨_,rfl⟩
   rw[<- hc] at hC i3
   clear hc hx hy g1 g2
   by_cases h0:c=0
   ·rw[if_pos h0] at i3
    subst h0
    repeat' first|refine st ?_|refine⟨λ_=>?_,λ_=>?_⟩|fail
    exact⟨i+1,rfl,rfl,rfl,by omega,by omega,by omega,i3⟩
   ·rw[if_neg h0] at i3
    subst i3
    repeat' first|refine st ?_|refine⟨λ_=>?_,λ_=>?_⟩|fail
    all_goals rfl
  |none=>
   have hge:=List.getElem?_eq_none_iff.1 hy
   have hil2:(fs.length:Int)<=i:=by omega
   have hll:(fs.length:Int)<es.length:=by omega
   rw[List.drop_eq_nil_of_le hge,List.drop_eq_getElem_cons hlt] at i3
   have i3:q=1:=i3
   subst i3
   clear hx hy g1 g2
   repeat' first|refine st ?_|refine⟨λ_=>?_,λ_=>?_⟩|fail
   all_goals rfl
 |none=>
  have hge:=List.getElem?_eq_none_iff.1 hx
  have hil:(es.length:Int)<=i:=by omega
  rw[List.drop_eq_nil_of_le hge] at i3
  by_cases hb:b.length<=i
  ·rw[List.drop_eq_nil_of_le hb] at i3
   have i3:q=0:=i3
   subst i3
   have e1:¬(es.length:Int)<fs.length:=by omega
   have e2:¬(fs.length:Int)<es.length:=by omega
   clear hx g1 g2
   repeat' first|refine st ?_|refine⟨λ_=>?_,λ_=>?_⟩|fail
   all_goals rfl
  ·rw[List.drop_eq_getElem_cons (by omega)] at i3
   have i3:q=-1:=i3
   subst i3
   have e1:(es.length:Int)<fs.length:=by omega
   clear hx g1 g2
   repeat' first|refine st ?_|refine⟨λ_=>?_,λ_=>?_⟩|fail
   all_goals rfl
theorem C.r8_Equal(a b:Row)(ha:a.length<=4194304)(hb:b.length<=4194304)(d1 d2:D)(h1:SlD d1 (eVs a))(h2:SlD d2 (eVs b)):Pure Tryz.prog N.bt_ref08_Equal [.d d1,.d d2] (.d (.bool (decide (cmpR a b=0)))):=by
 have hC:=C.r8_Compare a b ha hb d1 d2 h1 h2
 refine F.bt_ref08_Equal.go mixed rfl ?_
 repeat' first|refine st ?_|refine⟨λ_=>?_,λ_=>?_⟩|fail
 all_goals first|rfl|(rename_i h;simp[h];done)
theorem C.r8_before(a b:Row)(ha:a.length<=4194304)(hb:b.length<=4194304)(d1 d2:D)(h1:SlD d1 (eVs a))(h2:SlD d2 (eVs b)):Pure Tryz.prog N.bt_ref08_before [.d d1,.d d2,.d .nil] (.d (.bool (decide (cmpR a b<0)))):=by
 have hC:=C.r8_Compare a b ha hb d1 d2 h1 h2
 refine F.bt_ref08_before.go mixed rfl ?_
 repeat' first|refine st ?_|refine⟨λ_=>?_,λ_=>?_⟩|fail
 refine x_loop1 mixed Lt.bt_ref08_before_l0 Lk.bt_ref08_before_l0 (λ(i:Nat)=>[.d (eI i)]) (λi=>[]) (λi=>i=0) (λi=>0) 0 rfl rfl rfl rfl (λ_ _=>⟨rfl,rfl⟩) rfl rfl ?_
 repeat' first|refine st ?_|refine⟨λ_=>?_,λ_=>?_⟩|fail
 intro i hi
 subst hi
 repeat' first|refine st ?_|refine⟨λ_=>?_,λ_=>?_⟩|fail
 all_goals first|rfl|(rename_i h;simp[h];done)|(exfalso;simp_all;done)
def rD(l:List Row):List (List D):=l.map λr=>[.sl (eVs r)]
theorem rD_len(l:List Row):(rD l).length=l.length:=by simp[rD]
theorem rD_mem(l:List Row):∀e∈rD l,e.length=1:=by
 intro e he
 obtain⟨x,_,rfl⟩:=List.mem_map.1 he
 rfl
theorem rD_get{l:List Row}{i:Nat}{r:Row}(h:l[i]?=some r):(rD l)[i]?=some [.sl (eVs r)]:=by simp[rD,h]
theorem rD_app(l m:List Row):rD (l++m)=rD l++rD m:=by simp[rD]
def mrg:List Row->List Row->List Row
 |[],b=>b
 |a,[]=>a
 |x::a,y::b=>if cmpR y x<0 then y::mrg (x::a) b else x::mrg a (y::b)
termination_by a b=>a.length+b.length
theorem mrg_nil(a:List Row):mrg a []=a:=by cases a<;>simp[mrg]
theorem mrg_len:∀(n:Nat)(a b:List Row),a.length+b.length<=n->(mrg a b).length=a.length+b.length
 |_,[],b,_=>by simp[mrg]
 |_,x::a,[],_=>by simp[mrg]
 |0,x::a,y::b,h=>by simp at h
 |n+1,x::a,y::b,h=>by
  rw[mrg]
  simp only[List.length_cons] at h
  split
  ·rw[List.length_cons,mrg_len n _ _ (by simp only[List.length_cons];omega)];simp only[List.length_cons];omega
  ·rw[List.length_cons,mrg_len n _ _ (by simp only[List.length_cons];omega)];simp only[List.length_cons];omega
theorem C.r8_merged(a b:List Row)(hab:a.length+b.length<=4194304)(ha:∀r∈a,r.length<=4194304)(hb:∀r∈b,r.length<=4194304) :
  Pure Tryz.prog N.bt_ref08_merged [.d (.sl (rD a)),.d (.sl (rD b)),.d .nil] (.d (.sl (rD (mrg a b)))):=by
 have l1:=rD_len a
 have l2:=rD_len b
 have m1:=rD_mem a
 have m2:=rD_mem b
 have g1:=λi v=>@rD_get a i v
 have g2:=λi v=>@rD_get b i v
 obtain⟨es,hes⟩:∃z,z=rD a:=⟨_,rfl⟩
 obtain⟨fs,hfs⟩:∃z,z=rD b:=⟨_,rfl⟩
 rw[<- hes] at l1 m1 g1 ⊢
 rw[<- hfs] at l2 m2 g2 ⊢
 clear hes hfs
 have hml:=mrg_len _ a b (Nat.le_refl _)
 obtain⟨q,hq⟩:∃q,q=mrg a b:=⟨_,rfl⟩
 rw[<- hq] at hml ⊢
 refine F.bt_ref08_merged.go mixed rfl ?_
 repeat' first|refine st ?_|refine⟨λ_=>?_,λ_=>?_⟩|fail
 refine x_loop3 mixed Lt.bt_ref08_merged_l0 Lk.bt_ref08_merged_l0 (λ(i k:Nat) (w:List Row)=>[.arr 0 (rD w).length,.d (eI i),.d (eI k)]) (λi k w=>[.arr (rD w) 1 0 false]) (λi k w=>i<=a.length/\k<=b.length/\q=w++mrg (a.drop i) (b.drop k)) (λi k w=>a.length-i+(b.length-k)) 0 0 [] rfl rfl rfl rfl (λ_ _ _ _=>⟨rfl,rfl⟩) rfl ⟨by omega,by omega,hq⟩ ?_
 repeat' first|refine st ?_|refine⟨λ_=>?_,λ_=>?_⟩|fail
 intro i k w ⟨i1,i2,i3⟩
 clear hq
 have hwl:w.length+(a.length-i)+(b.length-k)=q.length:=by
  have:=congrArg List.length i3
  rw[List.length_append,mrg_len _ _ _ (Nat.le_refl _),List.length_drop,List.length_drop] at this
  omega
 have hw1:=rD_len w
 have hwm:=rD_mem w
 have hbd:((rD w).length+1)*24<=140737488355328:=by omega
 have happ:=λx=>show rD (w++[x])=rD w++[[.sl (eVs x)]] by rw[rD_app];rfl
 obtain⟨A,hA⟩:∃z,z=rD w:=⟨_,rfl⟩
 rw[<- hA] at hw1 hwm hbd ⊢
 cases hx:a[i]? with
 |some x=>
  have hlt:=(List.getElem?_eq_some_iff.1 hx).1
  have hil:(i:Int)<es.length:=by omega
  have e1:es[((i:Nat):Int).toNat]?=some [.sl (eVs x)]:=g1 i x hx
  have dx:a.drop i=x::a.drop (i+1):=by rw[List.drop_eq_getElem_cons hlt,(List.getElem?_eq_some_iff.1 hx).2]
  have happx:=happ x
  rw[<- hA] at happx
  cases hy:b[k]? with
  |some y=>
   have hlt2:=(List.getElem?_eq_some_iff.1 hy).1
   have hil2:(k:Int)<fs.length:=by omega
   have e2:fs[((k:Nat):Int).toNat]?=some [.sl (eVs y)]:=g2 k y hy
   have dy:b.drop k=y::b.drop (k+1):=by rw[List.drop_eq_getElem_cons hlt2,(List.getElem?_eq_some_iff.1 hy).2]
   have hB:=C.r8_before y x (hb y (List.mem_of_getElem? hy)) (ha x (List.mem_of_getElem? hx)) (.sl (eVs y)) (.sl (eVs x)) (.inr rfl) (.inr rfl)
   have happy:=happ y
   rw[<- hA] at happy
   have hne:¬(i:Int)=es.length:=by omega
   by_cases h0:cmpR y x<0
   ·rw[decide_eq_true h0] at hB
    have i4:q=(w++[y])++mrg (a.drop i) (b.drop (k+1)):=by
     rw[i3,dx,dy,mrg,if_pos h0,List.append_assoc];rfl
    clear i3 happ dx dy hx hy g1 g2 ha hb
    repeat' first|refine st ?_|refine⟨λ_=>?_,λ_=>?_⟩|fail
    exact⟨i,k+1,w++[y],by rw[happy];first|done|rfl|simp,rfl,by rw[happy];rfl,by omega,by omega,by omega,i4⟩
   ·rw[decide_eq_false h0] at hB
    have i4:q=(w++[x])++mrg (a.drop (i+1)) (b.drop k):=by
     rw[i3,dx,dy,mrg,if_neg h0,List.append_assoc];rfl
    clear i3 happ dx dy hx hy g1 g2 ha hb
    repeat' first|refine st ?_|refine⟨λ_=>?_,λ_=>?_⟩|fail
    exact⟨i+1,k,w++[x],by rw[happx];first|done|rfl|simp,rfl,by rw[happx];rfl,by omega,by omega,by omega,i4⟩
  |none=>
   have hge:=List.getElem?_eq_none_iff.1 hy
   have hil2:(fs.length:Int)<=k:=by omega
   have hne:¬(i:Int)=es.length:=by omega
   have i4:q=(w++[x])++mrg (a.drop (i+1)) (b.drop k):=by
    rw[i3,dx,List.drop_eq_nil_of_le hge,mrg_nil,mrg_nil,List.append_assoc];rfl
   clear i3 happ dx hx hy g1 g2 ha hb
   repeat' first|refine st ?_|refine⟨λ_=>?_,λ_=>?_⟩|fail
   exact⟨i+1,k,w++[x],by rw[happx];first|done|rfl|simp,rfl,by rw[happx];rfl,by omega,by omega,by omega,i4⟩
 |none=>
  have hge:=List.getElem?_eq_none_iff.1 hx
  have hil:(es.length:Int)<=i:=by omega
  have hie:(i:Int)=es.length:=by omega
  cases hy:b[k]? with
  |some y=>
   have hlt2:=(List.getElem?_eq_some_iff.1 hy).1
   have hil2:(k:Int)<fs.length:=by omega
   have e2:fs[((k:Nat):Int).toNat]?=some [.sl (eVs y)]:=g2 k y hy
   have dy:b.drop k=y::b.drop (k+1):=by rw[List.drop_eq_getElem_cons hlt2,(List.getElem?_eq_some_iff.1 hy).2]
   have happy:=happ y
   rw[<- hA] at happy
   have i4:q=(w++[y])++mrg (a.drop i) (b.drop (k+1)):=by
    rw[i3,dy,List.drop_eq_nil_of_le hge,mrg,mrg,List.append_assoc];rfl
   clear i3 happ dy hx hy g1 g2 ha hb
   repeat' first|refine st ?_|refine⟨λ_=>?_,λ_=>?_⟩|fail
   exact⟨i,k+1,w++[y],by rw[happy];first|done|rfl|simp,rfl,by rw[happy];rfl,by omega,by omega,by omega,i4⟩
  |none=>
   have hge2:=List.getElem?_eq_none_iff.1 hy
   have hil2:(fs.length:Int)<=k:=by omega
   have i4:q=w:=by rw[i3,List.drop_eq_nil_of_le hge,List.drop_eq_nil_of_le hge2,mrg,List.append_nil]
   subst i4
   clear i3 happ hx hy g1 g2 ha hb
   rw[<- hA]
   repeat' first|refine st ?_|refine⟨λ_=>?_,λ_=>?_⟩|fail
   all_goals rfl
end Go.Proofs
end
section
namespace Go.Proofs
open Go.Bi
structure Rw where
 nl:Bool
 vs:Row
abbrev Rw.d(r:Rw):D:=ng r.nl (eVs r.vs)
def eRs(l:List Rw):List (List D):=l.map λr=>[r.d]
theorem eRs_len(l:List Rw):(eRs l).length=l.length:=by simp[eRs]
theorem eRs_mem(l:List Rw):∀e∈eRs l,e.length=1:=by
 intro e he
 obtain⟨x,_,rfl⟩:=List.mem_map.1 he
 rfl
theorem eRs_get{l:List Rw}{i:Nat}{r:Rw}(h:l[i]?=some r):(eRs l)[i]?=some [r.d]:=by simp[eRs,h]
theorem eRs_take(l:List Rw)(i:Nat):(eRs l).take i=eRs (l.take i):=by simp[eRs]
theorem eRs_drop(l:List Rw)(i:Nat):(eRs l).drop i=eRs (l.drop i):=by simp[eRs]
def rw0(l:List Row):List Rw:=l.map (Rw.mk false)
theorem eRs_rw0(l:List Row):eRs (rw0 l)=rD l:=by
 unfold eRs rw0 rD
 rw[List.map_map]
 rfl
def vsR(l:List Rw):List Row:=l.map Rw.vs
theorem vsR_rw0(l:List Row):vsR (rw0 l)=l:=by
 unfold vsR rw0
 rw[List.map_map]
 exact List.map_id _
def ordR(l:List Row):List Row:=if h:l.length<=1 then l else mrg (ordR (l.take (l.length / 2))) (ordR (l.drop (l.length / 2)))
termination_by l.length
decreasing_by
 ·rw[List.length_take];omega
 ·rw[List.length_drop];omega
theorem ordR_len:∀(n:Nat)(l:List Row),l.length<=n->(ordR l).length=l.length
 |0,l,h=>by rw[ordR,dif_pos (by omega)]
 |n+1,l,h=>by
  rw[ordR]
  split
  ·rfl
  ·rw[mrg_len _ _ _ (Nat.le_refl _),ordR_len n _ (by rw[List.length_take];omega),ordR_len n _ (by rw[List.length_drop];omega),List.length_take,List.length_drop];omega
theorem mrg_mem:∀(n:Nat)(a b:List Row),a.length+b.length<=n->∀x,x∈mrg a b->x∈a\/x∈b
 |_,[],b,_,x,h=>by rw[mrg] at h;exact .inr h
 |_,y::a,[],_,x,h=>by rw[mrg_nil] at h;exact .inl h
 |0,y::a,z::b,h,_,_=>by simp at h
 |n+1,y::a,z::b,h,x,hx=>by
  simp only[List.length_cons] at h
  rw[mrg] at hx
  split at hx
  ·rcases List.mem_cons.1 hx with rfl|hx
   ·exact .inr (by simp)
   ·rcases mrg_mem n _ _ (by simp only[List.length_cons];omega) x hx with h1|h1
    ·exact .inl h1
    ·exact .inr (List.mem_cons_of_mem _ h1)
  ·rcases List.mem_cons.1 hx with rfl|hx
   ·exact .inl (by simp)
   ·rcases mrg_mem n _ _ (by simp only[List.length_cons];omega) x hx with h1|h1
    ·exact .inl (List.mem_cons_of_mem _ h1)
    ·exact .inr h1
theorem ordR_mem:∀(n:Nat)(l:List Row),l.length<=n->∀x,x∈ordR l->x∈l
 |0,l,h,x,hx=>by rw[ordR,dif_pos (by omega)] at hx;exact hx
 |n+1,l,h,x,hx=>by
  rw[ordR] at hx
  split at hx
  ·exact hx
  ·rcases mrg_mem _ _ _ (Nat.le_refl _) x hx with h1|h1
   ·exact List.mem_of_mem_take (ordR_mem n _ (by rw[List.length_take];omega) x h1)
   ·exact List.mem_of_mem_drop (ordR_mem n _ (by rw[List.length_drop];omega) x h1)
theorem C.r8_Order:∀(n:Nat)(l:List Rw),l.length<=n->n<=4194304->(∀r∈l,r.vs.length<=4194304)->∀d,SlD d (eRs l)->Pure Tryz.prog N.bt_ref08_Order [.d d,.d .nil] (.d (.sl (rD (ordR (vsR l))))):=by
 intro n
 induction n with
 |zero=>
  intro l hn _ _ d hd
  have hl:l=[]:=List.length_eq_zero_iff.1 (by omega)
  subst hl
  have h1:(eRs []).length=0:=rfl
  obtain⟨q,hq⟩:∃q,q=rD (ordR (vsR [])):=⟨_,rfl⟩
  have hq2:q=[]:=by rw[hq,ordR,dif_pos (by decide)];rfl
  rw[<- hq,hq2]
  refine F.bt_ref08_Order.go mixed rfl ?_
  repeat' first|refine st ?_|((with_reducible apply go_i);conv=>whnf)|refine⟨λ_=>?_,λ_=>?_⟩|fail
  all_goals rfl
 |succ n ih=>
  intro l hn hN hr d hd
  have h1:=eRs_len l
  have hm:=eRs_mem l
  have hg:=λi r=>@eRs_get l i r
  have hvl:(vsR l).length=l.length:=by unfold vsR;rw[List.length_map]
  obtain⟨q,hq⟩:∃q,q=rD (ordR (vsR l)):=⟨_,rfl⟩
  rw[<- hq]
  by_cases h0:l.length=0
  ·have hl:l=[]:=List.length_eq_zero_iff.1 h0
   subst hl
   have hq2:q=[]:=by rw[hq,ordR,dif_pos (by decide)];rfl
   have h1:(eRs []).length=0:=rfl
   rw[hq2]
   refine F.bt_ref08_Order.go mixed rfl ?_
   repeat' first|refine st ?_|((with_reducible apply go_i);conv=>whnf)|refine⟨λ_=>?_,λ_=>?_⟩|fail
   all_goals rfl
  by_cases h2:l.length=1
  ·obtain⟨r,rfl⟩:=List.length_eq_one_iff.1 h2
   have hq2:q=[[.sl (eVs r.vs)]]:=by rw[hq,ordR,dif_pos (show(vsR [r]).length<=1 from Nat.le_refl 1)];rfl
   have hd:d=.sl [[r.d]]:=by
    rcases hd with ⟨_,h⟩|h
    ·cases h
    ·exact h
   subst hd
   have hrl:=hr r (by simp)
   have hrd:SlD r.d (eVs r.vs):=sld_ng
   have hvl:=eVs_len r.vs
   have hvm:=eVs_mem r.vs
   obtain⟨rd,hrd'⟩:∃z,z=r.d:=⟨_,rfl⟩
   rw[<- hrd'] at hrd ⊢
   obtain⟨E,hE⟩:∃z,z=eVs r.vs:=⟨_,rfl⟩
   rw[<- hE] at hrd hvl hvm hq2
   rw[hq2]
   clear hg hm h1 hq hq2 hrd' hE hr ih
   have hb:(([]:List (List D)).length+E.length)*32<=140737488355328/\([]:List (List D)).length+E.length<=9223372036854775807:=by simp;omega
   refine F.bt_ref08_Order.go mixed rfl ?_
   repeat' first|refine st ?_|((with_reducible apply go_i);conv=>whnf)|refine⟨λ_=>?_,λ_=>?_⟩|fail
   all_goals (cases E<;>rfl)
  ·have hm2:((l.length:Nat):Int).tdiv 2=((l.length / 2:Nat):Int):=by rw[Int.tdiv_eq_ediv_of_nonneg (by omega)];omega
   obtain⟨m,hmm⟩:∃m,m=l.length / 2:=⟨_,rfl⟩
   rw[<- hmm] at hm2
   have hml:m<=l.length:=by omega
   have hd:d=.sl (eRs l):=by
    rcases hd with ⟨_,h⟩|h
    ·rw[h] at h1;simp at h1;omega
    ·exact h
   have hA:=ih (l.take m) (by rw[List.length_take];omega) (by omega) (λr h=>hr r (List.mem_of_mem_take h)) (.sl (((eRs l).drop (0:Int).toNat).take ((m:Int).toNat-(0:Int).toNat))) (by rw[show((m:Int).toNat-(0:Int).toNat)=m by simp];exact .inr (by rw[<- eRs_take];rfl))
   have hB:=ih (l.drop m) (by rw[List.length_drop];omega) (by omega) (λr h=>hr r (List.mem_of_mem_drop h)) (.sl (((eRs l).drop (m:Int).toNat).take ((l.length:Int).toNat-(m:Int).toNat))) (by
    rw[show((l.length:Int).toNat-(m:Int).toNat)=l.length-m by simp,show(m:Int).toNat=m from Int.toNat_natCast m]
    exact .inr (by rw[List.take_of_length_le (by rw[List.length_drop,eRs_len];omega),eRs_drop]))
   have e1:vsR (l.take m)=(vsR l).take m:=by unfold vsR;rw[List.map_take]
   have e2:vsR (l.drop m)=(vsR l).drop m:=by unfold vsR;rw[List.map_drop]
   rw[e1] at hA
   rw[e2] at hB
   have hvr:∀r∈vsR l,r.length<=4194304:=λr h=>by
    obtain⟨x,hx,rfl⟩:=List.mem_map.1 h
    exact hr x hx
   have n1:=ordR_len _ ((vsR l).take m) (Nat.le_refl _)
   have n2:=ordR_len _ ((vsR l).drop m) (Nat.le_refl _)
   have hM:=C.r8_merged (ordR ((vsR l).take m)) (ordR ((vsR l).drop m)) (by rw[n1,n2,List.length_take,List.length_drop];omega) (λr h=>hvr r (List.mem_of_mem_take (ordR_mem _ _ (Nat.le_refl _) r h))) (λr h=>hvr r (List.mem_of_mem_drop (ordR_mem _ _ (Nat.le_refl _) r h)))
   have hq2:q=rD (mrg (ordR ((vsR l).take m)) (ordR ((vsR l).drop m))):=by
    rw[hq,ordR,dif_neg (by rw[hvl];omega),hvl,<- hmm]
   rw[hq2]
   obtain⟨Z,hZ⟩:∃z,z=rD (mrg (ordR ((vsR l).take m)) (ordR ((vsR l).drop m))):=⟨_,rfl⟩
   obtain⟨Za,hZa⟩:∃z,z=rD (ordR ((vsR l).take m)):=⟨_,rfl⟩
   obtain⟨Zb,hZb⟩:∃z,z=rD (ordR ((vsR l).drop m)):=⟨_,rfl⟩
   rw[<- hZ] at hM ⊢
   rw[<- hZa] at hA hM
   rw[<- hZb] at hB hM
   subst hd
   obtain⟨es,hes⟩:∃z,z=eRs l:=⟨_,rfl⟩
   rw[<- hes] at hA hB h1 hm ⊢
   rw[<- h1] at hm2 hB
   have hml:(m:Int)<=es.length:=by omega
   have h00:¬(es.length:Int)=0:=by omega
   have h11:¬(es.length:Int)=1:=by omega
   clear hg hq hq2 hZ hZa hZb hes hr ih hvr n1 n2 e1 e2
   refine F.bt_ref08_Order.go mixed rfl ?_
   repeat' first|(rw[hm2])|refine st ?_|((with_reducible apply go_i);conv=>whnf)|refine⟨λ_=>?_,λ_=>?_⟩|fail
   all_goals rfl
theorem C.r8_Sort(l:List Rw)(hl:l.length<=4194304)(hr:∀r∈l,r.vs.length<=4194304)(d:D)(hd:SlD d (eRs l)):Pure Tryz.prog N.bt_ref08_Sort [.d d] (.d (.sl (rD (ordR (vsR l))))):=by
 have hO:=C.r8_Order _ l (Nat.le_refl _) hl hr d hd
 obtain⟨Z,hZ⟩:∃z,z=rD (ordR (vsR l)):=⟨_,rfl⟩
 rw[<- hZ] at hO ⊢
 refine F.bt_ref08_Sort.go mixed rfl ?_
 repeat' first|refine st ?_|((with_reducible apply go_i);conv=>whnf)|refine⟨λ_=>?_,λ_=>?_⟩|fail
 all_goals rfl
def dstR:Option Row->List Row->List Row
 |_,[]=>[]
 |none,x::r=>x::dstR (some x) r
 |some p,x::r=>if cmpR p x=0 then dstR (some x) r else x::dstR (some x) r
theorem dstR_len:∀(l:List Row)(p:Option Row),(dstR p l).length<=l.length
 |[],p=>by cases p<;>simp[dstR]
 |x::r,none=>by have:=dstR_len r (some x);simp only[dstR,List.length_cons];omega
 |x::r,some p=>by
  have:=dstR_len r (some x)
  simp only[dstR]
  split
  ·simp only[List.length_cons];omega
  ·simp only[List.length_cons];omega
def prvR(l:List Row)(i:Nat):Option Row:=if i=0 then none else l[i-1]?
theorem C.r8_Distinct(l:List Rw)(hl:l.length<=4194304)(hr:∀r∈l,r.vs.length<=4194304)(d:D)(hd:SlD d (eRs l)):Pure Tryz.prog N.bt_ref08_Distinct [.d d] (.d (.sl (rD (dstR none (ordR (vsR l)))))):=by
 have hO:=C.r8_Sort l hl hr d hd
 have hvl:(vsR l).length=l.length:=by unfold vsR;rw[List.length_map]
 have hol:=ordR_len _ (vsR l) (Nat.le_refl _)
 have hor:∀r∈ordR (vsR l),r.length<=4194304:=λr h=>by
  obtain⟨x,hx,rfl⟩:=List.mem_map.1 (ordR_mem _ _ (Nat.le_refl _) r h)
  exact hr x hx
 obtain⟨Z,hZ⟩:∃z,z=ordR (vsR l):=⟨_,rfl⟩
 rw[<- hZ] at hO hol hor ⊢
 have l1:=rD_len Z
 have m1:=rD_mem Z
 have g1:=λi v=>@rD_get Z i v
 obtain⟨es,hes⟩:∃z,z=rD Z:=⟨_,rfl⟩
 rw[<- hes] at hO l1 m1 g1
 clear hes hZ hd hr
 have hql:=dstR_len Z none
 obtain⟨q,hq⟩:∃q,q=dstR none Z:=⟨_,rfl⟩
 rw[<- hq] at hql ⊢
 refine F.bt_ref08_Distinct.go mixed rfl ?_
 repeat' first|refine st ?_|((with_reducible apply go_i);conv=>whnf)|refine⟨λ_=>?_,λ_=>?_⟩|fail
 refine x_loop2 mixed Lt.bt_ref08_Distinct_l0 Lk.bt_ref08_Distinct_l0 (λ(i:Nat) (w:List Row)=>[.arr 0 (rD w).length,.d (eI i)]) (λi w=>[.arr (rD w) 1 0 false]) (λi w=>i<=Z.length/\w.length<=i/\q=w++dstR (prvR Z i) (Z.drop i)) (λi w=>Z.length-i) 0 [] rfl rfl rfl rfl (λ_ _ _=>⟨rfl,rfl⟩) rfl ⟨by omega,Nat.le_refl _,hq⟩ ?_
 repeat' first|refine st ?_|((with_reducible apply go_i);conv=>whnf)|refine⟨λ_=>?_,λ_=>?_⟩|fail
 intro i w ⟨i1,i2,i3⟩
 clear hq
 have hw1:=rD_len w
 have hwm:=rD_mem w
 have hbd:((rD w).length+1)*24<=140737488355328:=by omega
 have happ:=λx=>show rD (w++[x])=rD w++[[.sl (eVs x)]] by rw[rD_app];rfl
 obtain⟨A,hA⟩:∃z,z=rD w:=⟨_,rfl⟩
 rw[<- hA] at hw1 hwm hbd ⊢
 cases hx:Z[i]? with
 |some x=>
  have hlt:=(List.getElem?_eq_some_iff.1 hx).1
  have hil:(i:Int)<es.length:=by omega
  have e1:es[((i:Nat):Int).toNat]?=some [.sl (eVs x)]:=g1 i x hx
  have dx:Z.drop i=x::Z.drop (i+1):=by rw[List.drop_eq_getElem_cons hlt,(List.getElem?_eq_some_iff.1 hx).2]
  have hp:prvR Z (i+1)=some x:=by unfold prvR;rw[if_neg (by omega)];exact hx
  have happx:=happ x
  rw[<- hA] at happx
  by_cases h0:i=0
  ·subst h0
   have i4:q=(w++[x])++dstR (prvR Z 1) (Z.drop 1):=by
    rw[i3,dx,hp,List.append_assoc];rfl
   clear i3 happ dx hp hx g1
   repeat' first|refine st ?_|((with_reducible apply go_i);conv=>whnf)|refine⟨λ_=>?_,λ_=>?_⟩|fail
   exact⟨1,w++[x],by rw[happx];first|done|rfl|simp,rfl,by rw[happx];rfl,by omega,by omega,by rw[List.length_append];exact Nat.add_le_add_right i2 1,i4⟩
  ·obtain⟨p,hpp⟩:∃p,Z[i-1]?=some p:=⟨_,List.getElem?_eq_getElem (by omega)⟩
   have e2:es[((i:Int)-1).toNat]?=some [.sl (eVs p)]:=by rw[show((i:Int)-1).toNat=i-1 by omega];exact g1 (i-1) p hpp
   have hpi:prvR Z i=some p:=by unfold prvR;rw[if_neg h0];exact hpp
   have hE:=C.r8_Equal p x (hor p (List.mem_of_getElem? hpp)) (hor x (List.mem_of_getElem? hx)) (.sl (eVs p)) (.sl (eVs x)) (.inr rfl) (.inr rfl)
   have hi0:¬(i:Int)=0:=by omega
   by_cases hc:cmpR p x=0
   ·rw[decide_eq_true hc] at hE
    have i4:q=w++dstR (prvR Z (i+1)) (Z.drop (i+1)):=by
     rw[i3,dx,hp,hpi,dstR,if_pos hc]
    clear i3 happ dx hp hx g1 happx hpp hpi
    repeat' first|refine st ?_|((with_reducible apply go_i);conv=>whnf)|refine⟨λ_=>?_,λ_=>?_⟩|fail
    exact⟨i+1,w,by rw[hA];first|done|rfl,rfl,by rw[hA];first|done|rfl,by omega,by omega,by omega,i4⟩
   ·rw[decide_eq_false hc] at hE
    have i4:q=(w++[x])++dstR (prvR Z (i+1)) (Z.drop (i+1)):=by
     rw[i3,dx,hp,hpi,dstR,if_neg hc,List.append_assoc];rfl
    clear i3 happ dx hp hx g1 hpp hpi
    repeat' first|refine st ?_|((with_reducible apply go_i);conv=>whnf)|refine⟨λ_=>?_,λ_=>?_⟩|fail
    exact⟨i+1,w++[x],by rw[happx];first|done|rfl|simp,rfl,by rw[happx];rfl,by omega,by omega,by rw[List.length_append];exact Nat.add_le_add_right i2 1,i4⟩
 |none=>
  have hge:=List.getElem?_eq_none_iff.1 hx
  have hil:(es.length:Int)<=i:=by omega
  have i4:q=w:=by rw[i3,List.drop_eq_nil_of_le hge];cases prvR Z i<;>simp[dstR]
  subst i4
  clear i3 happ hx g1
  rw[<- hA]
  repeat' first|refine st ?_|((with_reducible apply go_i);conv=>whnf)|refine⟨λ_=>?_,λ_=>?_⟩|fail
  all_goals rfl
end Go.Proofs
end
section
namespace Go.Proofs
open Go.Bi
structure Ag where
 op:Int
 arg:Int
abbrev Ag.ds(a:Ag):List D:=[eI a.op,eI a.arg]
def eAs(l:List Ag):List (List D):=l.map Ag.ds
theorem eAs_len(l:List Ag):(eAs l).length=l.length:=by simp[eAs]
theorem eAs_mem(l:List Ag):∀e∈eAs l,e.length=2:=by
 intro e he
 obtain⟨x,_,rfl⟩:=List.mem_map.1 he
 rfl
theorem eAs_get{l:List Ag}{i:Nat}{a:Ag}(h:l[i]?=some a):(eAs l)[i]?=some a.ds:=by simp[eAs,h]
structure Po where
 op:Int
 n:Int
 nk:Bool
 ki:List Int
 nr:Bool
 rows:List Rw
 pred:Ex
 nx:Bool
 xs:List Ex
 ny:Bool
 keys:List Int
 na:Bool
 aggs:List Ag
abbrev Po.dk(o:Po):D:=ng o.nk (eIs o.ki)
abbrev Po.dr(o:Po):D:=ng o.nr (eRs o.rows)
abbrev Po.dx(o:Po):D:=ng o.nx (xL o.xs)
abbrev Po.dy(o:Po):D:=ng o.ny (eIs o.keys)
abbrev Po.da(o:Po):D:=ng o.na (eAs o.aggs)
inductive Pl where
 |mk (o:Po) (ni:Bool) (ins:List Pl)
theorem Pl.ind{p:Pl->Prop}(h:∀o ni ins,(∀a∈ins,p a)->p (.mk o ni ins)):∀e,p e
 |.mk o ni ins=>h _ _ _ λa ha=>Pl.ind h a
termination_by e=>SizeOf.sizeOf e
decreasing_by
 have:=List.sizeOf_lt_of_mem ha
 simp only[Pl.mk.sizeOf_spec]
 omega
abbrev plds(o:Po)(di:D):List D:=[eI o.op,eI o.n,o.dk,o.dr]++o.pred.ds++[o.dx,o.dy,o.da,di]
mutual
def Pl.ds:Pl->List D
 |.mk o ni ins=>plds o (ng ni (Pl.dss ins))
def Pl.dss:List Pl->List (List D)
 |[]=>[]
 |e::es=>e.ds::Pl.dss es
end
theorem Pl.dss_eq:∀l,Pl.dss l=l.map Pl.ds
 |[]=>by simp[Pl.dss]
 |e::es=>by simp[Pl.dss,Pl.dss_eq es]
def pL(l:List Pl):List (List D):=l.map Pl.ds
theorem Pl.ds_mk(o:Po)(ni:Bool)(ins:List Pl):(Pl.mk o ni ins).ds=plds o (ng ni (pL ins)):=by
 rw[Pl.ds,Pl.dss_eq];rfl
def Pl.av(e:Pl):AV:=.agg (e.ds.map .d)
abbrev ePl(op n:Int)(dk dr:D)(xo xn:Int)(xv:Vl)(xm:List UInt8)(xd:D)(dx dy da di:D):AV:=.agg [.d (eI op),.d (eI n),.d dk,.d dr,.d (eI xo),.d (eI xn),.d (eI xv.k),.d (eI xv.n),.d (.str xv.s),.d (.str xm),.d xd,.d dx,.d dy,.d da,.d di]
abbrev ePld(op n:Int)(dk dr:D)(xo xn:Int)(xv:Vl)(xm:List UInt8)(xd:D)(dx dy da di:D):List D:=[eI op,eI n,dk,dr,eI xo,eI xn,eI xv.k,eI xv.n,.str xv.s,.str xm,xd,dx,dy,da,di]
theorem Pl.ds_eq(o:Po)(ni:Bool)(ins:List Pl)(xo xn:Int)(xv:Vl)(xm:List UInt8)(xl:Bool)(xa:List Ex)(h:o.pred=.mk xo xn xv xm xl xa) :
  (Pl.mk o ni ins).ds=ePld o.op o.n o.dk o.dr xo xn xv xm (ng xl (xL xa)) o.dx o.dy o.da (ng ni (pL ins)):=by
 rw[Pl.ds_mk]
 unfold plds
 rw[h,Ex.ds_mk]
 rfl
theorem Pl.av_eq(o:Po)(ni:Bool)(ins:List Pl)(xo xn:Int)(xv:Vl)(xm:List UInt8)(xl:Bool)(xa:List Ex)(h:o.pred=.mk xo xn xv xm xl xa) :
  (Pl.mk o ni ins).av=ePl o.op o.n o.dk o.dr xo xn xv xm (ng xl (xL xa)) o.dx o.dy o.da (ng ni (pL ins)):=by
 rw[Pl.av,Pl.ds_eq o ni ins xo xn xv xm xl xa h];rfl
theorem pL_len(l:List Pl):(pL l).length=l.length:=by simp[pL]
theorem Pl.ds_len(p:Pl):p.ds.length=15:=by
 obtain⟨⟨op,n,nk,ki,nr,rows,⟨xo,xn,xv,xm,xl,xa⟩,nx,xs,ny,keys,na,aggs⟩,ni,ins⟩:=p
 rw[Pl.ds_eq _ _ _ _ _ _ _ _ _ rfl];rfl
theorem pL_mem(l:List Pl):∀e∈pL l,e.length=15:=by
 intro e he
 obtain⟨p,_,rfl⟩:=List.mem_map.1 he
 exact p.ds_len
theorem pL_get{l:List Pl}{i:Nat}{e:Pl}(h:l[i]?=some e):(pL l)[i]?=some e.ds:=by simp[pL,h]
def Pl.bk(e:Pl):Nat:=bulkL e.ds
theorem bulkD_ng(nl:Bool)(l:List (List D)):bulkLL l<=bulkD (ng nl l):=by
 unfold ng
 split
 ·rename_i h
  simp only[Bool.and_eq_true,List.isEmpty_iff] at h
  rw[h.2];simp[bulkLL]
 ·simp only[bulkD];omega
theorem Pl.bk_mk(o:Po)(ni:Bool)(ins:List Pl):bulkLL (eIs o.ki)+bulkLL (eRs o.rows)+o.pred.bk+bulkLL (xL o.xs)+bulkLL (eIs o.keys)+bulkLL (eAs o.aggs)+bulkLL (pL ins)+2<=(Pl.mk o ni ins).bk:=by
 obtain⟨op,n,nk,ki,nr,rows,⟨xo,xn,xv,xm,xl,xa⟩,nx,xs,ny,keys,na,aggs⟩:=o
 rw[Pl.bk,Pl.ds_eq _ _ _ _ _ _ _ _ _ rfl,Ex.bk,Ex.ds_mk]
 have h1:=bulkD_ng nk (eIs ki)
 have h2:=bulkD_ng nr (eRs rows)
 have h3:=bulkD_ng nx (xL xs)
 have h4:=bulkD_ng ny (eIs keys)
 have h5:=bulkD_ng na (eAs aggs)
 have h6:=bulkD_ng ni (pL ins)
 simp only[ePld,Po.dk,Po.dr,Po.dx,Po.dy,Po.da,xds,bulkL,bulkD] at *
 omega
theorem Pl.bk_arg{o:Po}{ni:Bool}{ins:List Pl}{a:Pl}(h:a∈ins):a.bk<(Pl.mk o ni ins).bk:=by
 have h1:=Pl.bk_mk o ni ins
 have h2:bulkL a.ds<=bulkLL (pL ins):=bulkLL_mem (List.mem_map.2 ⟨a,h,rfl⟩)
 unfold Pl.bk at *
 omega
theorem eIs_bulk_len(l:List Int):l.length<=bulkLL (eIs l):=by
 rw[<- eIs_len l]
 refine bulkLL_len λx hx=>?_
 obtain⟨k,_,rfl⟩:=List.mem_map.1 hx
 simp[bulkL,bulkD]
theorem eRs_bulk_len(l:List Rw):l.length<=bulkLL (eRs l):=by
 rw[<- eRs_len l]
 refine bulkLL_len λx hx=>?_
 obtain⟨k,_,rfl⟩:=List.mem_map.1 hx
 simp only[bulkL]
 unfold Rw.d ng
 split<;>simp[bulkD]<;>omega
theorem eAs_bulk_len(l:List Ag):l.length<=bulkLL (eAs l):=by
 rw[<- eAs_len l]
 refine bulkLL_len λx hx=>?_
 obtain⟨k,_,rfl⟩:=List.mem_map.1 hx
 simp[Ag.ds,bulkL,bulkD]
theorem pL_bulk_len(l:List Pl):l.length<=bulkLL (pL l):=by
 rw[<- pL_len l]
 refine bulkLL_len λx hx=>?_
 obtain⟨p,_,rfl⟩:=List.mem_map.1 hx
 obtain⟨o,ni,ins⟩:=p
 have:=Pl.bk_mk o ni ins
 unfold Pl.bk at this
 omega
theorem eVs_bulk_len(l:List Vl):l.length<=bulkLL (eVs l)/\∀v∈l,v.s.length<=bulkLL (eVs l):=by
 constructor
 ·rw[<- eVs_len l]
  refine bulkLL_len λx hx=>?_
  obtain⟨k,_,rfl⟩:=List.mem_map.1 hx
  simp only[Vl.ds,bulkL,bulkD];omega
 ·intro v hv
  have h3:bulkL v.ds<=bulkLL (eVs l):=bulkLL_mem (List.mem_map.2 ⟨v,hv,rfl⟩)
  have h4:v.s.length<=bulkL v.ds:=by simp only[Vl.ds,bulkL,bulkD];omega
  omega
structure Pl.Bd(o:Po)(l:List Pl)(B:Nat):Prop where
 ki:o.ki.length<=B
 nr:o.rows.length<=B
 row:∀r∈o.rows,r.vs.length<=B/\∀v∈r.vs,v.s.length<=B
 pred:o.pred.bk<=B
 xs:o.xs.length<=B
 xb:∀e∈o.xs,e.bk<=B
 keys:o.keys.length<=B
 aggs:o.aggs.length<=B
 il:l.length<=B
 sub:∀a∈l,a.bk<=B
theorem Pl.bd{o:Po}{ni:Bool}{ins:List Pl}{B:Nat}(h:(Pl.mk o ni ins).bk<=B):Pl.Bd o ins B:=by
 have h1:=Pl.bk_mk o ni ins
 have a1:=eIs_bulk_len o.ki
 have a2:=eRs_bulk_len o.rows
 have a3:=xL_bulk_len o.xs
 have a4:=eIs_bulk_len o.keys
 have a5:=eAs_bulk_len o.aggs
 have a6:=pL_bulk_len ins
 refine⟨by omega,by omega,λr hr=>?_,by omega,by omega,λe he=>?_,by omega,by omega,by omega,λa ha=>?_⟩
 ·have b1:bulkL [ng r.nl (eVs r.vs)]<=bulkLL (eRs o.rows):=bulkLL_mem (List.mem_map.2 ⟨r,hr,rfl⟩)
  have b2:=bulkD_ng r.nl (eVs r.vs)
  have b3:bulkLL (eVs r.vs)<=B:=by simp only[bulkL] at b1;omega
  obtain⟨c1,c2⟩:=eVs_bulk_len r.vs
  exact⟨by omega,λv hv=>Nat.le_trans (c2 v hv) b3⟩
 ·have b1:bulkL e.ds<=bulkLL (xL o.xs):=bulkLL_mem (List.mem_map.2 ⟨e,he,rfl⟩)
  unfold Ex.bk
  omega
 ·have:=Pl.bk_arg (o:=o) (ni:=ni) ha
  omega
end Go.Proofs
end
