/- Texts of this claim, joined. No condition. -/
import Derived.Test.YtfnaleemmeejcaaGreatBi
import Derived.Test.YtfnaleemmeejcaaGreatIc0
import Derived.Test.YtfnaleemmeejcaaGreatIc1
import Derived.Lib.Strings
import Derived.Lib.Slices
import Derived.Lib.Walk
import Derived.Lib.Bytealg
set_option linter.unusedSimpArgs false
set_option linter.unusedVariables false
set_option maxRecDepth 10000
set_option maxHeartbeats 4000000
section
namespace Go.Bi
open Go
section
variable {P:Program}{n nb:Nat}{M:D4}{G:Gh}{os:List AO}{w:World}{ρ:D5}{a:Act}
def A7p(Q:AV->List AO->Prop)(rs:List RV)(ρ:D5)(os:List AO):Prop:=r6 ρ os rs λl=>match l with
 |[v]=>Q v os
 |_=>False
def A7n(Q:AV->List AO->Prop)(rs:List RV)(L:Sl)(os:List AO):Prop:=A4F L os rs λl=>match l with
 |[v]=>Q v os
 |_=>False
theorem C3s{Q:AV->List AO->Prop}{rs:List RV}{L:Sl}{os:List AO}(h:A7n Q rs L os):A7p Q rs (E8 L) os:=A5T h
theorem D8y{c:u9}(hR:Y7 n nb c M G os w ρ a){fn:Func}{rs:List RV}(hrs:fn.results.toList.mapM (cRV P)=some rs){Q:AV->List AO->Prop}(h:A7p Q rs ρ os) :
  ∃v,(results fn a.tmps).run P w=.ok v w/\∃M' G' r os',C9 M' G' os' w/\G7 c.M c.G c.os c.w M' G' os' w/\VA M' G' os' r v/\Q r os':=by
 obtain⟨l,vs,h1,h2,h3,h4⟩:=A9A hR.env hR.tmps _ rs hrs _ h
 match l,h1,h3,h4 with
 |[x],h1,h3,h4=>
  simp only[H9,l9] at h3
  refine⟨_,B31 h2,M,G,x,os,hR.env,hR.since,?_,h1⟩
  rw[dif_pos (by omega)]
  exact h4 0 x vs[0] rfl (F4 (by omega))
theorem D6q(hm:P.follows .mixedOrders=true){f:FuncId}{fn:Func}{code:Code}{ic:IC}{rs:List RV}(hf:P.funcs[f]?=some fn)(hname:fn.name≠ "runtime.NumGoroutine")(hb:fn.body=some code)(hc:cC P fn.ntmps code=some ic)
  (hrs:fn.results.toList.mapM (cRV P)=some rs) {args:List AV} {bs:List AO} (hargs:args.length<=fn.ntmps) {Q:AV->List AO->Prop}
  (h:Z3 P fn.ntmps bs.length ic {norm:=A7p Q rs,exit:=λ_ _ _=>False,ret:=A7p Q rs} (A1Z args) bs):B9 P f args bs Q:=by
 refine⟨⟨fn,hf,by rw[hb];rfl,hname⟩,λM G w vs he hl hv=>?_⟩
 refine calls_of_wp hf hb (wp_mono (A7N hm code ic hc _ _ _ h ⟨M,G,bs,w⟩ M G w {tmps:=vs++Array.replicate (fn.ntmps-vs.size) undef,defers:=[]} ?_) λe a' w' hp=>?_)
 ·exact {
   env:=he,since:=G7.refl ..,size:=by simp;omega,defers:=rfl,base:=rfl
   tmps:=λt=>by
    unfold A1Z
    by_cases ht:t<args.length
    ·have h1:(vs++Array.replicate (fn.ntmps-vs.size) undef).getD t undef=vs[t]:=by
      simp[A2t (show t<vs.size by omega),show t<vs.size by omega]
     have h2:args.getD t .junk=args[t]:=by simp[ht]
     show VA M G bs (args.getD t .junk) ((vs++Array.replicate (fn.ntmps-vs.size) undef).getD t undef)
     rw[h1,h2]
     have:=hv t args[t] vs[t] (F4 ht) (O0 (by omega))
     generalize args[t]=c at this
     cases c with
     |tup cs=>exact this.elim
     |junk=>trivial
     |_=>exact this
    ·have:args.getD t .junk=.junk:=by simp[I4,A1m (Nat.le_of_not_lt ht)]
     rw[this]
     trivial}
 ·have fin:A0H fn.ntmps bs.length ⟨M,G,bs,w⟩ (A7p Q rs) a' w'->a'.defers=[]/\∃v,(results fn a'.tmps).run P w'=.ok v w'/\∃v',Ending.returned v=.returned v'/\∃M' G' r os',C9 M' G' os' w'/\G7 M G bs w M' G' os' w'/\VA M' G' os' r v'/\Q r os':=by
   rintro⟨M',G',os',ρ',hR,hk⟩
   obtain⟨v,h1,h2⟩:=D8y hR hrs hk
   exact⟨hR.defers,v,h1,v,rfl,h2⟩
  cases e with
  |normal=>exact fin hp
  |ret=>exact fin hp
  |exit id=>obtain⟨_,_,_,_,_,hk⟩:=hp;exact hk.elim
  |_=>exact hp.elim
end
theorem B8.goO{P:Program}(hm:P.follows .mixedOrders=true){f n:Nat}{ic:IC}{rs:List RV}(h:B8 P f n ic rs){args:List AV}{bs:List AO}(hargs:Nat.ble args.length n=true){Q:AV->List AO->Prop}
  (hw:Go (xI P n bs.length ic (A7n Q rs) (λ_ _ _=>False) (A7n Q rs) (A1r 0 args) bs)):B9 P f args bs Q:=by
 obtain⟨fn,h1,h2,h3,h4,h5⟩:=h
 obtain⟨code,hb,hc⟩:=i7.1 h4
 subst h2
 refine D6q hm h1 (by simpa using h3) hb hc h5 (R3 hargs) ?_
 rw[B2z]
 exact A36 (K:=⟨A7n Q rs,λ_ _ _=>False,A7n Q rs⟩) ⟨λL os h=>C3s h,λ_ _ _ h=>h,λL os h=>C3s h⟩ hw
theorem B9.alone{P:Program}{g:FuncId}{args:List AV}{Q:AV->List AO->Prop}(h:B9 P g args [] Q)(hd:∀a∈args,∃x,a=.d x)(os:List AO) :
  B9 P g args os (λr os'=>∃r0 os0,Q r0 os0/\r=mA (rn [] os.length) r0/\os'=os++os0.map (mO (rn [] os.length))):=by
 have:=B9.frame (K:=λr os'=>∃r0 os0,Q r0 os0/\r=mA (rn [] os.length) r0/\os'=os++os0.map (mO (rn [] os.length))) h [] os rfl (by simp) (λi x hx=>by simp at hx)
  (λa ha=>by obtain⟨x,rfl⟩:=hd a ha;trivial) (λx hx=>by simp at hx) (λr bs' hq=>⟨r,bs',hq,rfl,rfl⟩)
 have e:args.map (mG (rn [] os.length))=args:=by
  rw[P5 (g:=id) (λa ha=>by obtain⟨x,rfl⟩:=hd a ha;rfl),v8]
 rwa [e] at this
end Go.Bi
end
section
namespace Go.Proofs
open Go.Bi
abbrev eI(n:Int):D:=.int .i64 n
abbrev eP(a b:Int):AV:=.agg [.d (eI a),.d (eI b)]
def A5(l:List Int):List (List D):=l.map λr=>[eI r]
theorem N2{l:List Int}{i:Nat}{r:Int}(h:l[i]?=some r):(A5 l)[i]?=some [eI r]:=by simp[A5,h]
theorem F9(l:List Int):(A5 l).length=l.length:=by simp[A5]
theorem I1(l:List Int):∀e∈A5 l,e.length=1:=by
 intro e he
 obtain⟨x,_,rfl⟩:=D7.1 he
 rfl
theorem B2y{es:List (List D)}{nl:Bool}(h:nl=es.isEmpty):u7 nl .nil (.sl es)=M8 es:=by
 subst h
 cases es<;>rfl
theorem A6i{α:Type}{f:α->Bool}{l:List α}{i:Nat}{x:α}(h:l[i]?=some x):(l.take (i+1)).all f=((l.take i).all f&&f x):=by
 simp only[L8,h,List.all_append,Option.toList,A1l,List.all_nil,Bool.and_true]
theorem A4Z{α:Type}{f:α->Bool}{l:List α}{i:Nat}{x:α}(h:l[i]?=some x)(hx:f x=false):l.all f=false:=by
 rw[A4G]
 intro ha
 rw[L7.1 ha x (C3 h)] at hx
 cases hx
def U0(a b:Int):Bool:=decide (0<=a/\a<b/\b<=1099511627776)
theorem C5e(a b:Int):Pure Tryz.prog A8q [eP a b] (.d (.bool (U0 a b))):=by
 refine C8r.go A6 rfl ?_
 repeat' first|refine st ?_|refine⟨λ_=>?_,λ_=>?_⟩|fail
 all_goals (simp_all[U0]<;>omega)
def T3(a b c d:Int):Int×Bool:=
 if U0 a b&&U0 c d then
  (if b<c then 0 else if b=c then 1 else if d<a then 12 else if d=a then 11 else if a=c/\b=d then 6
  else if a=c/\b<d then 3 else if a=c then 9 else if b=d/\a > c then 5 else if b=d then 7 else if a<c/\d<b then 8 else if c<a/\b<d then 4 else if a<c then 2 else 10,true)
 else (0,false)
theorem C4U(a b c d:Int):Pure Tryz.prog B7T [eP a b,eP c d] (.tup [.d (.int .i64 (T3 a b c d).1),.d (.bool (T3 a b c d).2)]):=by
 refine C6G.go A6 rfl ?_
 repeat' first|refine st ?_|((with_reducible first|apply I9|apply I5);(·exact C5e _ _))|refine⟨λ_=>?_,λ_=>?_⟩|fail
 all_goals simp_all[T3]
 all_goals (repeat' split)<;>omega
theorem D92(a b c d:Int):0<=(T3 a b c d).1/\(T3 a b c d).1<13:=by
 by_cases h:(U0 a b&&U0 c d)=true
 ·rw[T3,if_pos h]
  dsimp only
  repeat' split
  all_goals omega
 ·rw[T3,if_neg h]
  exact⟨by decide,by decide⟩
theorem C6o(a b:Int):Pure Tryz.prog B83 [eP a b] (.d (.bool (U0 a b))):=by
 refine C6P.go A6 rfl ?_
 repeat' first|refine st ?_|refine⟨λ_=>?_,λ_=>?_⟩|fail
 all_goals (simp_all[U0]<;>omega)
def Z6(r a b c d:Int):Bool:=
 if r=0 then decide (b<c) else if r=1 then decide (b=c) else if r=2 then decide (a<c/\c<b/\b<d) else if r=3 then decide (a=c/\b<d) else if r=4 then decide (c<a/\b<d)
 else if r=5 then decide (b=d/\c<a) else if r=6 then decide (a=c/\b=d) else if r=7 then decide (b=d/\a<c) else if r=8 then decide (a<c/\d<b) else if r=9 then decide (a=c/\d<b)
 else if r=10 then decide (c<a/\a<d/\d<b) else if r=11 then decide (d=a) else if r=12 then decide (d<a) else false
theorem C6m(r a b c d:Int):Pure Tryz.prog B85 [.d (eI r),eP a b,eP c d] (.d (.bool (Z6 r a b c d))):=by
 refine C6R.go A6 rfl ?_
 repeat' first|refine st ?_|refine⟨λ_=>?_,λ_=>?_⟩|fail
 all_goals simp_all[Z6]
 all_goals (intros;omega)
theorem D6J(a b c d:Int)(h1:U0 a b=true)(h2:U0 c d=true):Z6 (T3 a b c d).1 a b c d=true:=by
 simp only[U0,decide_eq_true_eq] at h1 h2
 have h:(U0 a b&&U0 c d)=true:=by simp[U0,h1,h2]
 rw[T3,if_pos h]
 dsimp only
 repeat' split
 all_goals (simp[Z6];try omega)
theorem D6L(r a b c d:Int)(h1:U0 a b=true)(h2:U0 c d=true)(h3:Z6 r a b c d=true):(T3 a b c d).1=r:=by
 simp only[U0,decide_eq_true_eq] at h1 h2
 have h:(U0 a b&&U0 c d)=true:=by simp[U0,h1,h2]
 have hr:0<=r/\r<13:=by
  by_cases hr:0<=r/\r<13
  ·exact hr
  ·unfold Z6 at h3
   rw[if_neg (by omega),if_neg (by omega),if_neg (by omega),if_neg (by omega),if_neg (by omega),if_neg (by omega),if_neg (by omega),if_neg (by omega),if_neg (by omega),if_neg (by omega),if_neg (by omega),if_neg (by omega),if_neg (by omega)] at h3
   cases h3
 rw[T3,if_pos h]
 dsimp only
 rcases(show r=0\/r=1\/r=2\/r=3\/r=4\/r=5\/r=6\/r=7\/r=8\/r=9\/r=10\/r=11\/r=12 by omega) with rfl|rfl|rfl|rfl|rfl|rfl|rfl|rfl|rfl|rfl|rfl|rfl|rfl
 ·have hh:=h3;simp only[Z6,decide_eq_true_eq] at hh;simp at hh
  rw[if_pos (by omega)]
 ·have hh:=h3;simp only[Z6,decide_eq_true_eq] at hh;simp at hh
  rw[if_neg (by omega),if_pos (by omega)]
 ·have hh:=h3;simp only[Z6,decide_eq_true_eq] at hh;simp at hh
  rw[if_neg (by omega),if_neg (by omega),if_neg (by omega),if_neg (by omega),if_neg (by omega),if_neg (by omega),if_neg (by omega),if_neg (by omega),if_neg (by omega),if_neg (by omega),if_neg (by omega),if_pos (by omega)]
 ·have hh:=h3;simp only[Z6,decide_eq_true_eq] at hh;simp at hh
  rw[if_neg (by omega),if_neg (by omega),if_neg (by omega),if_neg (by omega),if_neg (by omega),if_pos (by omega)]
 ·have hh:=h3;simp only[Z6,decide_eq_true_eq] at hh;simp at hh
  rw[if_neg (by omega),if_neg (by omega),if_neg (by omega),if_neg (by omega),if_neg (by omega),if_neg (by omega),if_neg (by omega),if_neg (by omega),if_neg (by omega),if_neg (by omega),if_pos (by omega)]
 ·have hh:=h3;simp only[Z6,decide_eq_true_eq] at hh;simp at hh
  rw[if_neg (by omega),if_neg (by omega),if_neg (by omega),if_neg (by omega),if_neg (by omega),if_neg (by omega),if_neg (by omega),if_pos (by omega)]
 ·have hh:=h3;simp only[Z6,decide_eq_true_eq] at hh;simp at hh
  rw[if_neg (by omega),if_neg (by omega),if_neg (by omega),if_neg (by omega),if_pos (by omega)]
 ·have hh:=h3;simp only[Z6,decide_eq_true_eq] at hh;simp at hh
  rw[if_neg (by omega),if_neg (by omega),if_neg (by omega),if_neg (by omega),if_neg (by omega),if_neg (by omega),if_neg (by omega),if_neg (by omega),if_pos (by omega)]
 ·have hh:=h3;simp only[Z6,decide_eq_true_eq] at hh;simp at hh
  rw[if_neg (by omega),if_neg (by omega),if_neg (by omega),if_neg (by omega),if_neg (by omega),if_neg (by omega),if_neg (by omega),if_neg (by omega),if_neg (by omega),if_pos (by omega)]
 ·have hh:=h3;simp only[Z6,decide_eq_true_eq] at hh;simp at hh
  rw[if_neg (by omega),if_neg (by omega),if_neg (by omega),if_neg (by omega),if_neg (by omega),if_neg (by omega),if_pos (by omega)]
 ·have hh:=h3;simp only[Z6,decide_eq_true_eq] at hh;simp at hh
  rw[if_neg (by omega),if_neg (by omega),if_neg (by omega),if_neg (by omega),if_neg (by omega),if_neg (by omega),if_neg (by omega),if_neg (by omega),if_neg (by omega),if_neg (by omega),if_neg (by omega),if_neg (by omega)]
 ·have hh:=h3;simp only[Z6,decide_eq_true_eq] at hh;simp at hh
  rw[if_neg (by omega),if_neg (by omega),if_neg (by omega),if_pos (by omega)]
 ·have hh:=h3;simp only[Z6,decide_eq_true_eq] at hh;simp at hh
  rw[if_neg (by omega),if_neg (by omega),if_pos (by omega)]
theorem D6K(r a b c d:Int)(h1:U0 a b=true)(h2:U0 c d=true):Z6 r a b c d=decide ((T3 a b c d).1=r):=by
 rw[A0n,decide_eq_true_eq]
 exact⟨D6L r a b c d h1 h2,λe=>by rw[<- e];exact D6J a b c d h1 h2⟩
theorem C3m(a b c d:Int):(T3 a b c d).2=(U0 a b&&U0 c d):=by
 by_cases h:(U0 a b&&U0 c d)=true
 ·rw[T3,if_pos h,h]
 ·rw[T3,if_neg h,A4G.2 h]
theorem D91{a b c d:Int}(h:(U0 a b&&U0 c d)=false):T3 a b c d=(0,false):=by
 unfold T3;rw[h];rfl
theorem C6l(r a b c d:Int):Pure Tryz.prog B84 [.d (eI r),eP a b,eP c d] (.d (.bool ((T3 a b c d).2&&decide ((T3 a b c d).1=r)))):=by
 refine C6Q.go A6 rfl ?_
 rw[C3m]
 repeat' first|refine st ?_|((with_reducible first|apply I9|apply I5);(·first|exact C6o _ _|exact C6m _ _ _ _ _))|refine⟨λ_=>?_,λ_=>?_⟩|fail
 ·rename_i h1 h2
  rw[D6K _ _ _ _ _ h1 h2,h1,h2];rfl
 ·rename_i h1 h2
  rw[h1,h2];rfl
 ·rename_i h1
  rw[h1];rfl
theorem C6n(a b c d:Int):Pure Tryz.prog B86 [eP a b,eP c d] (.tup [.d (.int .i64 (T3 a b c d).1),.d (.bool (T3 a b c d).2)]):=by
 refine C6S.go A6 rfl ?_
 repeat' first|refine st ?_|refine⟨λ_=>?_,λ_=>?_⟩|fail
 refine K6 A6 D0k C93 (λ(i:Nat)=>[.d (eI i)]) (λi=>[.cells [.d (eI a),.d (eI b)],.cells [.d (eI c),.d (eI d)]]) (λi=>i<=13/\∀j:Nat,j<i->((T3 a b c d).2&&decide ((T3 a b c d).1=j))=false) (λi=>13-i) 0 rfl rfl rfl rfl (λ_ _=>⟨rfl,rfl⟩) rfl ⟨by omega,by omega⟩ ?_
 repeat' first|refine st ?_|refine⟨λ_=>?_,λ_=>?_⟩|fail
 intro i ⟨h1,h2⟩
 repeat' first|refine st ?_|((with_reducible first|apply I9|apply I5);(·exact C6l _ _ _ _ _))|refine⟨λ_=>?_,λ_=>?_⟩|fail
 ·rename_i h3 h4
  simp[h3,h4]
 ·rename_i h3 h4
  refine⟨i+1,rfl,rfl,rfl,by omega,by omega,λj hj=>?_⟩
  rcases B1k.1 hj with h|rfl
  ·exact h2 j h
  ·rw[h3,decide_eq_false h4];rfl
 ·rename_i h3
  refine⟨i+1,rfl,rfl,rfl,by omega,by omega,λj hj=>?_⟩
  rw[h3];rfl
 ·have:(T3 a b c d).2=false:=by
   rw[A4G]
   intro h
   have hr:=D92 a b c d
   have:=h2 (T3 a b c d).1.toNat (by omega)
   rw[h] at this
   simp at this
   omega
  rw[C3m] at this
  rw[D91 this]
abbrev w7(a b:List UInt8):Int:=Lib.compareBytes a b
def W9(a b:Int):Int:=if a<b then -1 else if b<a then 1 else 0
def or3(a b c:Int):Int:=if a≠0 then a else if b≠0 then b else c
structure Vl where
 k:Int
 n:Int
 s:List UInt8
 deriving DecidableEq
abbrev Vl.ds(v:Vl):List D:=[eI v.k,eI v.n,.str v.s]
abbrev eV(v:Vl):AV:=.agg [.d (eI v.k),.d (eI v.n),.d (.str v.s)]
def E6:Vl:=⟨0,0,[]⟩
def prC(c:UInt8):Bool:=decide (32<=c.toNat/\c.toNat<=126)
def prB(s:List UInt8):Bool:=s.all prC
def O5(v:Vl):Bool:=
 if v.k=0 then decide (v.n=0/\v.s=[])
 else if v.k=1 then decide (v.s=[]/\-1125899906842624<=v.n/\v.n<=1125899906842624)
 else if v.k=2 then decide (v.n=0/\v.s.length<=200)&&prB v.s
 else if v.k=3 then decide (v.s=[]/\(v.n=0\/v.n=1)) else false
theorem C6E(s:List UInt8)(hs:s.length<=4611686018427387904):Pure Tryz.prog B9H [.d (.str s)] (.d (.bool (prB s))):=by
 refine C8J.go A6 rfl ?_
 repeat' first|refine st ?_|((with_reducible apply A4);conv=>whnf)|refine⟨λ_=>?_,λ_=>?_⟩|fail
 refine K6 A6 D1u D0d (λ(i:Nat)=>[.d (eI i)]) (λi=>[]) (λi=>i<=s.length/\(s.take i).all prC=true) (λi=>s.length-i) 0 rfl rfl rfl rfl (λ_ _=>⟨rfl,rfl⟩) rfl ⟨by omega,rfl⟩ ?_
 repeat' first|refine st ?_|((with_reducible apply A4);conv=>whnf)|refine⟨λ_=>?_,λ_=>?_⟩|fail
 intro i ⟨h1,h2⟩
 cases hx:s[i]? with
 |some c=>
  have hlt:=(B4.1 hx).1
  have hg:s.getD ((i:Int)).toNat 0=c:=by simp[I4,hx]
  repeat' first|refine st ?_|((with_reducible apply A4);conv=>whnf)|refine⟨λ_=>?_,λ_=>?_⟩|fail
  ·rename_i h
   rw[hg] at h
   rw[prB,A4Z hx (decide_eq_false (by omega))]
  ·rename_i h h'
   rw[hg] at h h'
   rw[prB,A4Z hx (decide_eq_false (by omega))]
  ·rename_i h h'
   rw[hg] at h h'
   refine⟨i+1,rfl,rfl,rfl,by omega,by omega,?_⟩
   rw[A6i hx,h2,prC,decide_eq_true (by omega)];rfl
 |none=>
  have hge:=E9.1 hx
  rw[H4 hge] at h2
  repeat' first|refine st ?_|((with_reducible apply A4);conv=>whnf)|refine⟨λ_=>?_,λ_=>?_⟩|fail
  rw[prB,h2]
theorem C6c(s:List UInt8)(hs:s.length<=4611686018427387904):Pure Tryz.prog B8f [.d (.str s)] (.d (.bool (prB s))):=by
 refine C73.go A6 rfl ?_
 repeat' first|refine st ?_|((with_reducible apply A4);conv=>whnf)|refine⟨λ_=>?_,λ_=>?_⟩|fail
 refine K6 A6 D0l C94 (λ(i:Nat)=>[.d (eI i)]) (λi=>[]) (λi=>i<=s.length/\(s.take i).all prC=true) (λi=>s.length-i) 0 rfl rfl rfl rfl (λ_ _=>⟨rfl,rfl⟩) rfl ⟨by omega,rfl⟩ ?_
 repeat' first|refine st ?_|((with_reducible apply A4);conv=>whnf)|refine⟨λ_=>?_,λ_=>?_⟩|fail
 intro i ⟨h1,h2⟩
 cases hx:s[i]? with
 |some c=>
  have hlt:=(B4.1 hx).1
  have hg:s.getD ((i:Int)).toNat 0=c:=by simp[I4,hx]
  repeat' first|refine st ?_|((with_reducible apply A4);conv=>whnf)|refine⟨λ_=>?_,λ_=>?_⟩|fail
  ·rename_i h
   rw[hg] at h
   rw[prB,A4Z hx (decide_eq_false (by omega))]
  ·rename_i h h'
   rw[hg] at h h'
   rw[prB,A4Z hx (decide_eq_false (by omega))]
  ·rename_i h h'
   rw[hg] at h h'
   refine⟨i+1,rfl,rfl,rfl,by omega,by omega,?_⟩
   rw[A6i hx,h2,prC,decide_eq_true (by omega)];rfl
 |none=>
  have hge:=E9.1 hx
  rw[H4 hge] at h2
  repeat' first|refine st ?_|((with_reducible apply A4);conv=>whnf)|refine⟨λ_=>?_,λ_=>?_⟩|fail
  rw[prB,h2]
theorem B0p(v:Vl)(hs:v.s.length<=4611686018427387904):Pure Tryz.prog B1j [eV v] (.d (.bool (O5 v))):=by
 refine C8H.go A6 rfl ?_
 have hP:=C6E v.s hs
 repeat' first|refine st ?_|((with_reducible apply A4);conv=>whnf)|refine⟨λ_=>?_,λ_=>?_⟩|fail
 all_goals (simp_all[O5]<;>omega)
theorem A5X(v:Vl)(hs:v.s.length<=4611686018427387904):Pure Tryz.prog B0R [eV v] (.d (.bool (O5 v))):=by
 refine C76.go A6 rfl ?_
 have hP:=C6c v.s hs
 repeat' first|refine st ?_|((with_reducible apply A4);conv=>whnf)|refine⟨λ_=>?_,λ_=>?_⟩|fail
 all_goals (simp_all[O5]<;>omega)
theorem A2x:Pure Tryz.prog B9F [] (eV E6):=by
 refine C8G.go A6 rfl ?_
 repeat' first|refine st ?_|((with_reducible apply A4);conv=>whnf)|refine⟨λ_=>?_,λ_=>?_⟩|fail
 all_goals rfl
theorem S0:Pure Tryz.prog A68 [] (eV E6):=by
 refine C70.go A6 rfl ?_
 repeat' first|refine st ?_|((with_reducible apply A4);conv=>whnf)|refine⟨λ_=>?_,λ_=>?_⟩|fail
 all_goals rfl
def Y0(b:Bool):Vl:=⟨3,if b then 1 else 0,[]⟩
theorem B4l(b:Bool):Pure Tryz.prog B9D [.d (.bool b)] (eV (Y0 b)):=by
 refine C8E.go A6 rfl ?_
 repeat' first|refine st ?_|((with_reducible apply A4);conv=>whnf)|refine⟨λ_=>?_,λ_=>?_⟩|fail
 all_goals simp_all[Y0]
theorem A7X(b:Bool):Pure Tryz.prog A8f [.d (.bool b)] (eV (Y0 b)):=by
 refine C6U.go A6 rfl ?_
 repeat' first|refine st ?_|((with_reducible apply A4);conv=>whnf)|refine⟨λ_=>?_,λ_=>?_⟩|fail
 all_goals simp_all[Y0]
def g8(v:Vl):Vl:=if O5 v then v else E6
theorem C6D(v:Vl)(hs:v.s.length<=4611686018427387904):Pure Tryz.prog B9G [eV v] (eV (g8 v)):=by
 refine C8I.go A6 rfl ?_
 have hV:=B0p v hs
 repeat' first|refine st ?_|((with_reducible apply A4);conv=>whnf)|((with_reducible first|apply I9|apply I5);(·exact A2x))|refine⟨λ_=>?_,λ_=>?_⟩|fail
 all_goals simp_all[g8]
theorem B4f(v:Vl)(hs:v.s.length<=4611686018427387904):Pure Tryz.prog B8k [eV v] (eV (g8 v)):=by
 refine C79.go A6 rfl ?_
 have hV:=A5X v hs
 repeat' first|refine st ?_|((with_reducible apply A4);conv=>whnf)|((with_reducible first|apply I9|apply I5);(·exact S0))|refine⟨λ_=>?_,λ_=>?_⟩|fail
 all_goals simp_all[g8]
def Z2(n:Int):Vl:=g8 ⟨1,n,[]⟩
def B3q(s:List UInt8):Vl:=g8 ⟨2,0,s⟩
theorem B0o(n:Int):Pure Tryz.prog B9E [.d (eI n)] (eV (Z2 n)):=by
 refine C8F.go A6 rfl ?_
 have hV:=C6D ⟨1,n,[]⟩ (by simp)
 repeat' first|refine st ?_|((with_reducible apply A4);conv=>whnf)|refine⟨λ_=>?_,λ_=>?_⟩|fail
 all_goals rfl
theorem A0o(n:Int):Pure Tryz.prog B8a [.d (eI n)] (eV (Z2 n)):=by
 refine C6X.go A6 rfl ?_
 have hV:=B4f ⟨1,n,[]⟩ (by simp)
 repeat' first|refine st ?_|((with_reducible apply A4);conv=>whnf)|refine⟨λ_=>?_,λ_=>?_⟩|fail
 all_goals rfl
theorem C6d(s:List UInt8)(hs:s.length<=4611686018427387904):Pure Tryz.prog B8g [.d (.str s)] (eV (B3q s)):=by
 refine C74.go A6 rfl ?_
 have hV:=B4f ⟨2,0,s⟩ hs
 repeat' first|refine st ?_|((with_reducible apply A4);conv=>whnf)|refine⟨λ_=>?_,λ_=>?_⟩|fail
 all_goals rfl
end Go.Proofs
end
section
namespace Go.Proofs
open Go.Bi
attribute [local irreducible] Go.Utf8.decode
end Go.Proofs
end
section
namespace Go.Proofs
open Go.Bi
theorem A1x{a b:Int}:W9 a b=0↔a=b:=by unfold W9;split<;>(try split)<;>omega
theorem B1G:∀(a b:List UInt8),Op.bytesLess a b=decide (w7 a b<0)/\Op.bytesLess b a=decide (0<w7 a b)/\(w7 a b=0↔a=b)/\(w7 a b=-1\/w7 a b=0\/w7 a b=1)
 |[],[]=>by simp[Op.bytesLess,w7,Lib.compareBytes]
 |[],_::_=>by simp[Op.bytesLess,w7,Lib.compareBytes]
 |_::_,[]=>by simp[Op.bytesLess,w7,Lib.compareBytes]
 |x::a,y::b=>by
  obtain⟨h1,h2,h3,h4⟩:=B1G a b
  simp only[Op.bytesLess,w7,Lib.compareBytes] at *
  by_cases hxy:x<y
  ·have h5:¬y<x:=by intro h;exact absurd (UInt8.lt_trans hxy h) (UInt8.lt_irrefl x)
   have h6:x≠y:=by intro h;rw[h] at hxy;exact UInt8.lt_irrefl y hxy
   simp[hxy,h5,h6,Ne.symm h6]
  ·by_cases hyx:y<x
   ·have h6:x≠y:=by intro h;rw[h] at hyx;exact UInt8.lt_irrefl y hyx
    simp[hxy,hyx,h6,Ne.symm h6]
   ·have h6:x=y:=UInt8.le_antisymm (UInt8.not_lt.1 hyx) (UInt8.not_lt.1 hxy)
    subst h6
    simp only[UInt8.lt_irrefl,decide_false,Bool.false_or,beq_self_eq_true,Q4,if_false,h1,h2,List.cons.injEq,true_and]
    exact⟨h3,h4⟩
def b6(a b:Vl):Int:=or3 (W9 a.k b.k) (W9 a.n b.n) (w7 a.s b.s)
def sgn(l g:Bool):Int:=if l then -1 else if g then 1 else 0
theorem C6e(l g:Bool):Pure Tryz.prog B8i [.d (.bool l),.d (.bool g)] (.d (eI (sgn l g))):=by
 refine C77.go A6 rfl ?_
 repeat' first|refine st ?_|((with_reducible apply A4);conv=>whnf)|refine⟨λ_=>?_,λ_=>?_⟩|fail
 all_goals simp_all[sgn]
theorem A7Y(a b:Vl):Pure Tryz.prog B88 [eV a,eV b] (.d (eI (b6 a b))):=by
 refine C6V.go A6 rfl ?_
 repeat' first|refine st ?_|((with_reducible apply A4);conv=>whnf)|((with_reducible first|apply I9|apply I5);(·exact C6e _ _))|refine⟨λ_=>?_,λ_=>?_⟩|fail
 ·rename_i h1 h2
  have e1:=A1x.2 h1
  have e2:=A1x.2 h2
  obtain⟨h3,h4,h5,h6⟩:=B1G a.s b.s
  rw[b6,or3,e1,e2]
  simp only[h3,h4,sgn,decide_eq_true_eq]
  congr 2
  rcases h6 with h|h|h
  ·rw[h];rfl
  ·rw[h,decide_eq_true (h5.1 h)];rfl
  ·have hne:decide (a.s=b.s)=false:=decide_eq_false (λe=>by rw[h5.2 e] at h;cases h)
   rw[h,hne];rfl
 ·rename_i h1 h2
  have e1:=A1x.2 h1
  rw[b6,or3,e1,if_neg (by simp),if_pos (λe=>h2 (A1x.1 e)),sgn,W9]
  simp
 ·rename_i h1
  rw[b6,or3,if_pos (λe=>h1 (A1x.1 e)),sgn,W9]
  simp
def A9X(a b:Vl)(is:Bool):Int:=if a.k=0\/a.k≠b.k then 1 else if is then 2 else 0
theorem B4e(a b:Vl)(is:Bool):Pure Tryz.prog B8j [eV a,eV b,.d (.bool is)] (.d (eI (A9X a b is))):=by
 refine C78.go A6 rfl ?_
 repeat' first|refine st ?_|((with_reducible apply A4);conv=>whnf)|refine⟨λ_=>?_,λ_=>?_⟩|fail
 all_goals simp_all[A9X]
def vEq(a b:Vl):Int:=A9X a b (decide (b6 a b=0))
def A7I(a b:Vl):Int:=A9X a b (decide (b6 a b<0))
theorem C69(a b:Vl):Pure Tryz.prog B89 [eV a,eV b] (.d (eI (vEq a b))):=by
 refine C6W.go A6 rfl ?_
 repeat' first|refine st ?_|((with_reducible apply A4);conv=>whnf)|((with_reducible first|apply I9|apply I5);(·first|exact A7Y _ _|exact B4e _ _ _))|refine⟨λ_=>?_,λ_=>?_⟩|fail
 all_goals rfl
theorem C6a(a b:Vl):Pure Tryz.prog B8b [eV a,eV b] (.d (eI (A7I a b))):=by
 refine C6Y.go A6 rfl ?_
 repeat' first|refine st ?_|((with_reducible apply A4);conv=>whnf)|((with_reducible first|apply I9|apply I5);(·first|exact A7Y _ _|exact B4e _ _ _))|refine⟨λ_=>?_,λ_=>?_⟩|fail
 all_goals rfl
def A5J(t:Int):Int:=if t=0\/t=2 then t else 1
def A2o(t:Int):Int:=2-A5J t
theorem B4d(t:Int):Pure Tryz.prog B8c [.d (eI t)] (.d (eI (A2o t))):=by
 refine C6Z.go A6 rfl ?_
 repeat' first|refine st ?_|((with_reducible apply A4);conv=>whnf)|refine⟨λ_=>?_,λ_=>?_⟩|fail
 all_goals simp_all[A2o,A5J]
def A7C(a b:Int):Int:=min (min 2 (A5J a)) (A5J b)
def tOr(a b:Int):Int:=A2o (A7C (A2o a) (A2o b))
theorem C68(a b:Int):Pure Tryz.prog B87 [.d (eI a),.d (eI b)] (.d (eI (A7C a b))):=by
 refine C6T.go A6 rfl ?_
 repeat' first|refine st ?_|((with_reducible apply A4);conv=>whnf)|refine⟨λ_=>?_,λ_=>?_⟩|fail
 all_goals (simp only[A7C,A5J,AV.d.injEq,D.int.injEq,true_and];split<;>split<;>omega)
theorem C6b(a b:Int):Pure Tryz.prog B8e [.d (eI a),.d (eI b)] (.d (eI (tOr a b))):=by
 refine C72.go A6 rfl ?_
 have key:∀x y:Int,tOr x y=if x=2\/y=2 then 2 else if x=0/\y=0 then 0 else 1:=by
  intro x y
  by_cases x0:x=0<;>by_cases x2:x=2<;>by_cases y0:y=0<;>by_cases y2:y=2<;>simp[tOr,A7C,A2o,A5J,x0,x2,y0,y2]<;>omega
 rw[key]
 repeat' first|refine st ?_|((with_reducible apply A4);conv=>whnf)|refine⟨λ_=>?_,λ_=>?_⟩|fail
 all_goals (simp only[AV.d.injEq,D.int.injEq,true_and];(repeat' split)<;>omega)
def Q9(v:Vl):Int:=if v=Y0 true then 2 else if v=Y0 false then 0 else 1
theorem A7M{v w:Vl}:v=w↔(v.k=w.k/\v.n=w.n/\v.s=w.s):=by cases v;cases w;simp
theorem D9V(v:Vl):Q9 v=if v.k=3/\v.n=1/\v.s=[] then 2 else if v.k=3/\v.n=0/\v.s=[] then 0 else 1:=by
 simp only[Q9,A7M,Y0,if_true,O2,if_false]
theorem A40(v:Vl):Pure Tryz.prog B8h [eV v] (.d (eI (Q9 v))):=by
 refine C75.go A6 rfl ?_
 rw[D9V]
 repeat' first|refine st ?_|((with_reducible apply A4);conv=>whnf)|((with_reducible first|apply I9|apply I5);(·exact A7X _))|refine⟨λ_=>?_,λ_=>?_⟩|fail
 all_goals (simp_all[Y0])
def r9(t:Int):Vl:=if t=2 then Y0 true else if t=0 then Y0 false else E6
theorem B0n(t:Int):Pure Tryz.prog B8d [.d (eI t)] (eV (r9 t)):=by
 refine C71.go A6 rfl ?_
 repeat' first|refine st ?_|((with_reducible apply A4);conv=>whnf)|((with_reducible first|apply I9|apply I5);(·first|exact S0|exact A7X _))|refine⟨λ_=>?_,λ_=>?_⟩|fail
 all_goals simp_all[r9,E6,Y0]
def B6(l:List Vl):List (List D):=l.map Vl.ds
theorem X3(l:List Vl):(B6 l).length=l.length:=by simp[B6]
theorem A1A{l:List Vl}{i:Nat}{v:Vl}(h:l[i]?=some v):(B6 l)[i]?=some v.ds:=by simp[B6,h]
theorem T7(l:List Vl):∀e∈B6 l,e.length=3:=by
 intro e he
 obtain⟨x,_,rfl⟩:=D7.1 he
 rfl
def T4(l:List Vl)(i:Int):Vl:=if i<0\/(l.length:Int)<=i then E6 else l.getD i.toNat E6
theorem B3k{l:List Vl}{i:Int}(h:¬i<0)(h2:¬(l.length:Int)<=i):l[i.toNat]?=some (T4 l i):=by
 rw[T4,if_neg (by omega),I4,F4 (by omega)];rfl
theorem B4g(l:List Vl)(hl:l.length<=4611686018427387904)(d:D)(hd:A9 d (B6 l))(i:Int):Pure Tryz.prog B8l [.d d,.d (eI i)] (eV (T4 l i)):=by
 refine C7a.go A6 rfl ?_
 have h1:=X3 l
 have hm:=T7 l
 by_cases hi:i<0
 ·have e:T4 l i=E6:=if_pos (.inl hi)
  rw[e]
  repeat' first|refine st ?_|((with_reducible apply A4);conv=>whnf)|((with_reducible first|apply I9|apply I5);(·exact S0))|refine⟨λ_=>?_,λ_=>?_⟩|fail
 ·by_cases hi2:(l.length:Int)<=i
  ·have e:T4 l i=E6:=if_pos (.inr hi2)
   rw[e]
   repeat' first|refine st ?_|((with_reducible apply A4);conv=>whnf)|((with_reducible first|apply I9|apply I5);(·exact S0))|refine⟨λ_=>?_,λ_=>?_⟩|fail
  ·have hg:=A1A (B3k hi hi2)
   repeat' first|refine st ?_|((with_reducible apply A4);conv=>whnf)|refine⟨λ_=>?_,λ_=>?_⟩|fail
theorem C6C(l:List Vl)(hl:l.length<=4611686018427387904)(d:D)(hd:A9 d (B6 l))(i:Int):Pure Tryz.prog B9C [.d d,.d (eI i)] (eV (T4 l i)):=by
 refine C8D.go A6 rfl ?_
 have h1:=X3 l
 have hm:=T7 l
 by_cases hi:i<0
 ·have e:T4 l i=E6:=if_pos (.inl hi)
  rw[e]
  repeat' first|refine st ?_|((with_reducible apply A4);conv=>whnf)|((with_reducible first|apply I9|apply I5);(·exact A2x))|refine⟨λ_=>?_,λ_=>?_⟩|fail
 ·by_cases hi2:(l.length:Int)<=i
  ·have e:T4 l i=E6:=if_pos (.inr hi2)
   rw[e]
   repeat' first|refine st ?_|((with_reducible apply A4);conv=>whnf)|((with_reducible first|apply I9|apply I5);(·exact A2x))|refine⟨λ_=>?_,λ_=>?_⟩|fail
  ·have hg:=A1A (B3k hi hi2)
   repeat' first|refine st ?_|((with_reducible apply A4);conv=>whnf)|refine⟨λ_=>?_,λ_=>?_⟩|fail
structure Co where
 nm:List UInt8
 k:Int
 nl:Bool
abbrev Co.ds(c:Co):List D:=[.str c.nm,eI c.k,.bool c.nl]
def kd(l:List Co):List Int:=l.map Co.k
def Kt(l:List Co)(i:Nat):List (List D):=A5 (kd (l.take i))
def acF:List Vl->List Co->Int
 |v::r,c::l=>if O5 v=false then 8 else if v.k=0 then (if c.nl then acF r l else 12) else if v.k=c.k then acF r l else 7
 |_,_=>0
def J2(row:List Vl)(T2:List Co):Int:=if row.length=T2.length then acF row T2 else 13
def pick(row:List Vl)(ks:List Int):List Vl:=ks.map (T4 row)
def Pt(row:List Vl)(ks:List Int)(i:Nat):List (List D):=B6 (pick row (ks.take i))
theorem B9K(row:List Vl)(ks:List Int)(i:Nat)(h:i<=ks.length):(Pt row ks i).length=i:=by
 unfold Pt pick
 rw[X3,D8,M4]
 omega
theorem B9L{row:List Vl}{ks:List Int}{i:Nat}{k:Int}(h:ks[i]?=some k):Pt row ks i++[(T4 row k).ds]=Pt row ks (i+1):=by
 unfold Pt pick
 rw[L8,h]
 simp[B6]
theorem B9J{row:List Vl}{ks:List Int}{i:Nat}(h:ks.length<=i):Pt row ks i=B6 (pick row ks):=by
 unfold Pt
 rw[H4 h]
theorem E0x(row:List Vl)(hr:row.length<=1073741824)(dr:D)(hdr:A9 dr (B6 row))(ks:List Int)(hk:ks.length<=1073741824)(dk:D)(hdk:A9 dk (A5 ks)):Pure Tryz.prog B9B [.d dr,.d dk] (.d (.sl (B6 (pick row ks)))):=by
 refine C8C.go A6 rfl ?_
 have h1:=F9 ks
 have hm:=I1 ks
 have hb:0<=((A5 ks).length:Int)/\((A5 ks).length:Int)*32<=140737488355328/\((A5 ks).length:Int)<=9223372036854775807:=by omega
 repeat' first|refine st ?_|refine⟨λ_=>?_,λ_=>?_⟩|fail
 refine L6 A6 D1t D0c (λ(i:Nat) (A:List (List D))=>[.arr 0 A.length,.d (eI i)]) (λi A=>[.arr A 3 0 false]) (λi A=>i<=ks.length/\A=Pt row ks i) (λi _=>ks.length-i) 0 [] rfl rfl rfl rfl (λ_ _ _=>⟨rfl,rfl⟩) rfl ⟨by omega,rfl⟩ ?_
 repeat' first|refine st ?_|refine⟨λ_=>?_,λ_=>?_⟩|fail
 intro i A ⟨h4,h5⟩
 have hAl:A.length=i:=by rw[h5];exact B9K row ks i (by omega)
 have hAm:∀e∈A,e.length=3:=by rw[h5];exact T7 _
 cases hx:ks[i]? with
 |some k=>
  have hlt:=(B4.1 hx).1
  have hs:=B9L (row:=row) hx
  have hg:=N2 hx
  have hA:=C6C row (by omega) dr hdr k
  rw[<- h5] at hs
  obtain⟨v,hv⟩:∃v,v=T4 row k:=⟨_,rfl⟩
  rw[<- hv] at hA hs
  repeat' first|refine st ?_|refine⟨λ_=>?_,λ_=>?_⟩|fail
  exact⟨i+1,A++[v.ds],rfl,rfl,rfl,by omega,by omega,hs⟩
 |none=>
  have hge:=E9.1 hx
  rw[B9J hge] at h5
  rw[<- h5]
  repeat' first|refine st ?_|refine⟨λ_=>?_,λ_=>?_⟩|fail
  all_goals rfl
theorem C6i(row:List Vl)(hr:row.length<=1073741824)(dr:D)(hdr:A9 dr (B6 row))(ks:List Int)(hk:ks.length<=1073741824)(dk:D)(hdk:A9 dk (A5 ks)):Pure Tryz.prog B8s [.d dr,.d dk] (.d (.sl (B6 (pick row ks)))):=by
 refine C7i.go A6 rfl ?_
 have h1:=F9 ks
 have hm:=I1 ks
 repeat' first|refine st ?_|refine⟨λ_=>?_,λ_=>?_⟩|fail
 refine L6 A6 D0r C9a (λ(i:Nat) (A:List (List D))=>[.arr 0 A.length,.d (eI i)]) (λi A=>[.arr A 3 0 false]) (λi A=>i<=ks.length/\A=Pt row ks i) (λi _=>ks.length-i) 0 [] rfl rfl rfl rfl (λ_ _ _=>⟨rfl,rfl⟩) rfl ⟨by omega,rfl⟩ ?_
 repeat' first|refine st ?_|refine⟨λ_=>?_,λ_=>?_⟩|fail
 intro i A ⟨h4,h5⟩
 have hAl:A.length=i:=by rw[h5];exact B9K row ks i (by omega)
 have hAm:∀e∈A,e.length=3:=by rw[h5];exact T7 _
 cases hx:ks[i]? with
 |some k=>
  have hlt:=(B4.1 hx).1
  have hs:=B9L (row:=row) hx
  have hg:=N2 hx
  have hA:=B4g row (by omega) dr hdr k
  rw[<- h5] at hs
  obtain⟨v,hv⟩:∃v,v=T4 row k:=⟨_,rfl⟩
  rw[<- hv] at hA hs
  repeat' first|refine st ?_|refine⟨λ_=>?_,λ_=>?_⟩|fail
  exact⟨i+1,A++[v.ds],rfl,rfl,rfl,by omega,by omega,hs⟩
 |none=>
  have hge:=E9.1 hx
  rw[B9J hge] at h5
  rw[<- h5]
  repeat' first|refine st ?_|refine⟨λ_=>?_,λ_=>?_⟩|fail
  all_goals rfl
theorem B42(ks:List Int)(hk:ks.length<=1073741824)(d d':D)(hd:A9 d (A5 ks))(hd':A9 d' (A5 ks)):Pure Tryz.prog B8J [.d d,.d d'] (.d (.bool true)):=by
 refine C7H.go A6 rfl ?_
 have h1:=F9 ks
 have hm:=I1 ks
 repeat' first|refine st ?_|refine⟨λ_=>?_,λ_=>?_⟩|fail
 refine K6 A6 D0E C9n (λ(i:Nat)=>[.d (eI i)]) (λi=>[]) (λi=>i<=ks.length) (λi=>ks.length-i) 0 rfl rfl rfl rfl (λ_ _=>⟨rfl,rfl⟩) rfl (N1 _) ?_
 repeat' first|refine st ?_|refine⟨λ_=>?_,λ_=>?_⟩|fail
 intro i h4
 cases hx:ks[i]? with
 |some k=>
  have hlt:=(B4.1 hx).1
  have hg:=N2 hx
  repeat' first|refine st ?_|refine⟨λ_=>?_,λ_=>?_⟩|fail
  exact⟨i+1,rfl,rfl,rfl,by omega,by omega⟩
 |none=>
  have hge:=E9.1 hx
  repeat' first|refine st ?_|refine⟨λ_=>?_,λ_=>?_⟩|fail
  all_goals rfl
end Go.Proofs
end
section
namespace Go.Proofs
open Go.Bi
inductive Ex where
 |mk (op n:Int) (v:Vl) (name:List UInt8) (nl:Bool) (args:List Ex)
theorem Ex.ind{p:Ex->Prop}(h:∀op n v name nl args,(∀a∈args,p a)->p (.mk op n v name nl args)):∀e,p e
 |.mk op n v name nl args=>h _ _ _ _ _ _ λa ha=>Ex.ind h a
termination_by e=>SizeOf.sizeOf e
decreasing_by
 have:=List.sizeOf_lt_of_mem ha
 simp only[Ex.mk.sizeOf_spec]
 omega
def ng(nl:Bool)(l:List (List D)):D:=if nl&&l.isEmpty then .nil else .sl l
theorem C7{nl:Bool}{l:List (List D)}:A9 (ng nl l) l:=by
 unfold ng
 split
 ·rename_i h
  simp only[K7,A0r] at h
  exact .inl ⟨rfl,h.2⟩
 ·exact .inr rfl
abbrev T5(op n:Int)(v:Vl)(name:List UInt8)(d:D):List D:=[eI op,eI n,eI v.k,eI v.n,.str v.s,.str name,d]
abbrev eX(op n:Int)(v:Vl)(name:List UInt8)(d:D):AV:=.agg [.d (eI op),.d (eI n),.d (eI v.k),.d (eI v.n),.d (.str v.s),.d (.str name),.d d]
mutual
def Ex.ds:Ex->List D
 |.mk op n v name nl args=>T5 op n v name (ng nl (Ex.dss args))
def Ex.dss:List Ex->List (List D)
 |[]=>[]
 |e::es=>e.ds::Ex.dss es
end
theorem Ex.dss_eq:∀l,Ex.dss l=l.map Ex.ds
 |[]=>by simp[Ex.dss]
 |e::es=>by simp[Ex.dss,Ex.dss_eq es]
def xL(l:List Ex):List (List D):=l.map Ex.ds
theorem Ex.ds_mk(op n:Int)(v:Vl)(name:List UInt8)(nl:Bool)(args:List Ex):(Ex.mk op n v name nl args).ds=T5 op n v name (ng nl (xL args)):=by
 rw[Ex.ds,Ex.dss_eq];rfl
def Ex.av(e:Ex):AV:=.agg (e.ds.map .d)
theorem Ex.av_mk(op n:Int)(v:Vl)(name:List UInt8)(nl:Bool)(args:List Ex):(Ex.mk op n v name nl args).av=eX op n v name (ng nl (xL args)):=by
 rw[Ex.av,Ex.ds_mk];rfl
theorem P0(l:List Ex):(xL l).length=l.length:=by simp[xL]
theorem P2(l:List Ex):∀e∈xL l,e.length=7:=by
 intro e he
 obtain⟨⟨op,n,v,name,nl,args⟩,_,rfl⟩:=D7.1 he
 rw[Ex.ds_mk];rfl
theorem Y1{l:List Ex}{i:Nat}{e:Ex}(h:l[i]?=some e):(xL l)[i]?=some e.ds:=by simp[xL,h]
def Ex.bk(e:Ex):Nat:=J8 e.ds
theorem A23{l:List (List D)}{x:List D}(h:x∈l):J8 x<=D6 l:=by
 induction l with
 |nil=>cases h
 |cons y l ih=>
  simp only[D6]
  rcases H2.1 h with rfl|h
  ·omega
  ·have:=ih h;omega
theorem A4a{l:List (List D)}(h:∀x∈l,1<=J8 x):l.length<=D6 l:=by
 induction l with
 |nil=>exact N1 _
 |cons y l ih=>
  have h1:=h y (by simp)
  have h2:=ih λx hx=>h x (by simp[hx])
  simp only[D6,H9]
  omega
theorem Ex.bk_mk(op n:Int)(v:Vl)(name:List UInt8)(nl:Bool)(args:List Ex):D6 (xL args)+v.s.length+name.length+6<=(Ex.mk op n v name nl args).bk:=by
 rw[Ex.bk,Ex.ds_mk]
 simp only[J8,T6]
 unfold ng
 split
 ·rename_i h
  simp only[K7,A0r] at h
  rw[h.2]
  simp only[T6,D6]
  omega
 ·simp only[T6];omega
theorem Ex.bk_pos(e:Ex):6<=e.bk:=by
 obtain⟨op,n,v,name,nl,args⟩:=e
 have:=Ex.bk_mk op n v name nl args
 omega
theorem C4u(l:List Ex):l.length<=D6 (xL l):=by
 rw[<- P0 l]
 refine A4a λx hx=>?_
 obtain⟨e,_,rfl⟩:=D7.1 hx
 have:=e.bk_pos
 unfold Ex.bk at this
 omega
theorem Ex.bk_arg{op n:Int}{v:Vl}{name:List UInt8}{nl:Bool}{args:List Ex}{a:Ex}(h:a∈args):a.bk<(Ex.mk op n v name nl args).bk:=by
 have h1:=Ex.bk_mk op n v name nl args
 have h2:J8 a.ds<=D6 (xL args):=A23 (D7.2 ⟨a,h,rfl⟩)
 unfold Ex.bk at *
 omega
theorem Ex.bk_bounds{op n:Int}{v:Vl}{name:List UInt8}{nl:Bool}{args:List Ex}{B:Nat}(h:(Ex.mk op n v name nl args).bk<=B):args.length<=B/\v.s.length<=B/\name.length<=B/\∀a∈args,a.bk<=B:=by
 have h1:=Ex.bk_mk op n v name nl args
 have h2:=C4u args
 exact⟨by omega,by omega,by omega,λa ha=>by have:=Ex.bk_arg (op:=op) (n:=n) (v:=v) (name:=name) (nl:=nl) ha;omega⟩
end Go.Proofs
end
section
namespace Go.Proofs
open Go.Bi
abbrev B5:=List Vl
def K5:B5->B5->Int
 |v::r,w::s=>if b6 v w=0 then K5 r s else b6 v w
 |[],_::_=>-1
 |_::_,[]=>1
 |[],[]=>0
theorem D5h{a b:B5}{i:Nat}{v w:Vl}(h:a[i]?=some v)(g:b[i]?=some w):K5 (a.drop i) (b.drop i)=if b6 v w=0 then K5 (a.drop (i+1)) (b.drop (i+1)) else b6 v w:=by
 obtain⟨h1,h2⟩:=B4.1 h
 obtain⟨g1,g2⟩:=B4.1 g
 rw[S1 h1,S1 g1,h2,g2]
 rfl
theorem A7Z(a b:B5)(ha:a.length<=4294967296)(hb:b.length<=4294967296)(d1 d2:D)(h1:A9 d1 (B6 a))(h2:A9 d2 (B6 b)):Pure Tryz.prog B8m [.d d1,.d d2] (.d (eI (K5 a b))):=by
 have l1:=X3 a
 have l2:=X3 b
 have m1:=T7 a
 have m2:=T7 b
 have g1:=λi v=>@A1A a i v
 have g2:=λi v=>@A1A b i v
 obtain⟨es,hes⟩:∃z,z=B6 a:=⟨_,rfl⟩
 obtain⟨fs,hfs⟩:∃z,z=B6 b:=⟨_,rfl⟩
 rw[<- hes] at h1 l1 m1 g1
 rw[<- hfs] at h2 l2 m2 g2
 clear hes hfs
 obtain⟨q,hq⟩:∃q,q=K5 a b:=⟨_,rfl⟩
 rw[<- hq]
 refine C7b.go A6 rfl ?_
 repeat' first|refine st ?_|refine⟨λ_=>?_,λ_=>?_⟩|fail
 refine K6 A6 D0m C95 (λ(i:Nat)=>[.d (eI i)]) (λi=>[]) (λi=>i<=a.length/\i<=b.length/\q=K5 (a.drop i) (b.drop i)) (λi=>a.length-i) 0 rfl rfl rfl rfl (λ_ _=>⟨rfl,rfl⟩) rfl ⟨by omega,by omega,hq⟩ ?_
 repeat' first|refine st ?_|refine⟨λ_=>?_,λ_=>?_⟩|fail
 intro i ⟨i1,i2,i3⟩
 clear hq
 cases hx:a[i]? with
 |some v=>
  have hlt:=(B4.1 hx).1
  have hil:(i:Int)<es.length:=by omega
  cases hy:b[i]? with
  |some w=>
   have hlt2:=(B4.1 hy).1
   have hil2:(i:Int)<fs.length:=by omega
   have e1:es[((i:Nat):Int).toNat]?=some v.ds:=g1 i v hx
   have e2:fs[((i:Nat):Int).toNat]?=some w.ds:=g2 i w hy
   have hC:=A7Y v w
   rw[D5h hx hy] at i3
   obtain⟨c,hc⟩:∃c,c=b6 v w:=⟨_,rfl⟩
   rw[<- hc] at hC i3
   clear hc hx hy g1 g2
   by_cases h0:c=0
   ·rw[if_pos h0] at i3
    subst h0
    repeat' first|refine st ?_|refine⟨λ_=>?_,λ_=>?_⟩|fail
    exact⟨i+1,rfl,rfl,rfl,by omega,by omega,by omega,i3⟩
   ·rw[if_neg h0] at i3
    subst i3
    repeat' first|refine st ?_|refine⟨λ_=>?_,λ_=>?_⟩|fail
    all_goals rfl
  |none=>
   have hge:=E9.1 hy
   have hil2:(fs.length:Int)<=i:=by omega
   have hll:(fs.length:Int)<es.length:=by omega
   rw[R1 hge,S1 hlt] at i3
   have i3:q=1:=i3
   subst i3
   clear hx hy g1 g2
   repeat' first|refine st ?_|refine⟨λ_=>?_,λ_=>?_⟩|fail
   all_goals rfl
 |none=>
  have hge:=E9.1 hx
  have hil:(es.length:Int)<=i:=by omega
  rw[R1 hge] at i3
  by_cases hb:b.length<=i
  ·rw[R1 hb] at i3
   have i3:q=0:=i3
   subst i3
   have e1:¬(es.length:Int)<fs.length:=by omega
   have e2:¬(fs.length:Int)<es.length:=by omega
   clear hx g1 g2
   repeat' first|refine st ?_|refine⟨λ_=>?_,λ_=>?_⟩|fail
   all_goals rfl
  ·rw[S1 (by omega)] at i3
   have i3:q=-1:=i3
   subst i3
   have e1:(es.length:Int)<fs.length:=by omega
   clear hx g1 g2
   repeat' first|refine st ?_|refine⟨λ_=>?_,λ_=>?_⟩|fail
   all_goals rfl
theorem A5Y(a b:B5)(ha:a.length<=4294967296)(hb:b.length<=4294967296)(d1 d2:D)(h1:A9 d1 (B6 a))(h2:A9 d2 (B6 b)):Pure Tryz.prog B0S [.d d1,.d d2] (.d (.bool (decide (K5 a b=0)))):=by
 have hC:=A7Z a b ha hb d1 d2 h1 h2
 refine C7e.go A6 rfl ?_
 repeat' first|refine st ?_|refine⟨λ_=>?_,λ_=>?_⟩|fail
 all_goals first|rfl|(rename_i h;simp[h];done)
theorem C6j(a b:B5)(ha:a.length<=4294967296)(hb:b.length<=4294967296)(d1 d2:D)(h1:A9 d1 (B6 a))(h2:A9 d2 (B6 b)):Pure Tryz.prog B8u [.d d1,.d d2,.d .nil] (.d (.bool (decide (K5 a b<0)))):=by
 have hC:=A7Z a b ha hb d1 d2 h1 h2
 refine C7l.go A6 rfl ?_
 repeat' first|refine st ?_|refine⟨λ_=>?_,λ_=>?_⟩|fail
 refine K6 A6 D0s C9b (λ(i:Nat)=>[.d (eI i)]) (λi=>[]) (λi=>i=0) (λi=>0) 0 rfl rfl rfl rfl (λ_ _=>⟨rfl,rfl⟩) rfl rfl ?_
 repeat' first|refine st ?_|refine⟨λ_=>?_,λ_=>?_⟩|fail
 intro i hi
 subst hi
 repeat' first|refine st ?_|refine⟨λ_=>?_,λ_=>?_⟩|fail
 all_goals first|rfl|(rename_i h;simp[h];done)|(exfalso;simp_all;done)
def rD(l:List B5):List (List D):=l.map λr=>[.sl (B6 r)]
theorem p9(l:List B5):(rD l).length=l.length:=by simp[rD]
theorem r5(l:List B5):∀e∈rD l,e.length=1:=by
 intro e he
 obtain⟨x,_,rfl⟩:=D7.1 he
 rfl
theorem A2V{l:List B5}{i:Nat}{r:B5}(h:l[i]?=some r):(rD l)[i]?=some [.sl (B6 r)]:=by simp[rD,h]
theorem A2i(l m:List B5):rD (l++m)=rD l++rD m:=by simp[rD]
def P7:List B5->List B5->List B5
 |[],b=>b
 |a,[]=>a
 |x::a,y::b=>if K5 y x<0 then y::P7 (x::a) b else x::P7 a (y::b)
termination_by a b=>a.length+b.length
theorem A5y(a:List B5):P7 a []=a:=by cases a<;>simp[P7]
theorem A78:∀(n:Nat)(a b:List B5),a.length+b.length<=n->(P7 a b).length=a.length+b.length
 |_,[],b,_=>by simp[P7]
 |_,x::a,[],_=>by simp[P7]
 |0,x::a,y::b,h=>by simp at h
 |n+1,x::a,y::b,h=>by
  rw[P7]
  simp only[H9] at h
  split
  ·rw[H9,A78 n _ _ (by simp only[H9];omega)];simp only[H9];omega
  ·rw[H9,A78 n _ _ (by simp only[H9];omega)];simp only[H9];omega
theorem C6k(a b:List B5)(hab:a.length+b.length<=4294967296)(ha:∀r∈a,r.length<=4294967296)(hb:∀r∈b,r.length<=4294967296) :
  Pure Tryz.prog B8v [.d (.sl (rD a)),.d (.sl (rD b)),.d .nil] (.d (.sl (rD (P7 a b)))):=by
 have l1:=p9 a
 have l2:=p9 b
 have m1:=r5 a
 have m2:=r5 b
 have g1:=λi v=>@A2V a i v
 have g2:=λi v=>@A2V b i v
 obtain⟨es,hes⟩:∃z,z=rD a:=⟨_,rfl⟩
 obtain⟨fs,hfs⟩:∃z,z=rD b:=⟨_,rfl⟩
 rw[<- hes] at l1 m1 g1 ⊢
 rw[<- hfs] at l2 m2 g2 ⊢
 clear hes hfs
 have hml:=A78 _ a b (D3 _)
 obtain⟨q,hq⟩:∃q,q=P7 a b:=⟨_,rfl⟩
 rw[<- hq] at hml ⊢
 refine C7m.go A6 rfl ?_
 repeat' first|refine st ?_|refine⟨λ_=>?_,λ_=>?_⟩|fail
 refine A7P A6 D0t C9c (λ(i k:Nat) (w:List B5)=>[.arr 0 (rD w).length,.d (eI i),.d (eI k)]) (λi k w=>[.arr (rD w) 1 0 false]) (λi k w=>i<=a.length/\k<=b.length/\q=w++P7 (a.drop i) (b.drop k)) (λi k w=>a.length-i+(b.length-k)) 0 0 [] rfl rfl rfl rfl (λ_ _ _ _=>⟨rfl,rfl⟩) rfl ⟨by omega,by omega,hq⟩ ?_
 repeat' first|refine st ?_|refine⟨λ_=>?_,λ_=>?_⟩|fail
 intro i k w ⟨i1,i2,i3⟩
 clear hq
 have hwl:w.length+(a.length-i)+(b.length-k)=q.length:=by
  have:=congrArg List.length i3
  rw[H8,A78 _ _ _ (D3 _),Y2,Y2] at this
  omega
 have hw1:=p9 w
 have hwm:=r5 w
 have hbd:((rD w).length+1)*24<=140737488355328:=by omega
 have happ:=λx=>show rD (w++[x])=rD w++[[.sl (B6 x)]] by rw[A2i];rfl
 obtain⟨A,hA⟩:∃z,z=rD w:=⟨_,rfl⟩
 rw[<- hA] at hw1 hwm hbd ⊢
 cases hx:a[i]? with
 |some x=>
  have hlt:=(B4.1 hx).1
  have hil:(i:Int)<es.length:=by omega
  have e1:es[((i:Nat):Int).toNat]?=some [.sl (B6 x)]:=g1 i x hx
  have dx:a.drop i=x::a.drop (i+1):=by rw[S1 hlt,(B4.1 hx).2]
  have happx:=happ x
  rw[<- hA] at happx
  cases hy:b[k]? with
  |some y=>
   have hlt2:=(B4.1 hy).1
   have hil2:(k:Int)<fs.length:=by omega
   have e2:fs[((k:Nat):Int).toNat]?=some [.sl (B6 y)]:=g2 k y hy
   have dy:b.drop k=y::b.drop (k+1):=by rw[S1 hlt2,(B4.1 hy).2]
   have hB:=C6j y x (hb y (C3 hy)) (ha x (C3 hx)) (.sl (B6 y)) (.sl (B6 x)) (.inr rfl) (.inr rfl)
   have happy:=happ y
   rw[<- hA] at happy
   have hne:¬(i:Int)=es.length:=by omega
   by_cases h0:K5 y x<0
   ·rw[decide_eq_true h0] at hB
    have i4:q=(w++[y])++P7 (a.drop i) (b.drop (k+1)):=by
     rw[i3,dx,dy,P7,if_pos h0,S6];rfl
    clear i3 happ dx dy hx hy g1 g2 ha hb
    repeat' first|refine st ?_|refine⟨λ_=>?_,λ_=>?_⟩|fail
    exact⟨i,k+1,w++[y],by rw[happy];first|done|rfl|simp,rfl,by rw[happy];rfl,by omega,by omega,by omega,i4⟩
   ·rw[decide_eq_false h0] at hB
    have i4:q=(w++[x])++P7 (a.drop (i+1)) (b.drop k):=by
     rw[i3,dx,dy,P7,if_neg h0,S6];rfl
    clear i3 happ dx dy hx hy g1 g2 ha hb
    repeat' first|refine st ?_|refine⟨λ_=>?_,λ_=>?_⟩|fail
    exact⟨i+1,k,w++[x],by rw[happx];first|done|rfl|simp,rfl,by rw[happx];rfl,by omega,by omega,by omega,i4⟩
  |none=>
   have hge:=E9.1 hy
   have hil2:(fs.length:Int)<=k:=by omega
   have hne:¬(i:Int)=es.length:=by omega
   have i4:q=(w++[x])++P7 (a.drop (i+1)) (b.drop k):=by
    rw[i3,dx,R1 hge,A5y,A5y,S6];rfl
   clear i3 happ dx hx hy g1 g2 ha hb
   repeat' first|refine st ?_|refine⟨λ_=>?_,λ_=>?_⟩|fail
   exact⟨i+1,k,w++[x],by rw[happx];first|done|rfl|simp,rfl,by rw[happx];rfl,by omega,by omega,by omega,i4⟩
 |none=>
  have hge:=E9.1 hx
  have hil:(es.length:Int)<=i:=by omega
  have hie:(i:Int)=es.length:=by omega
  cases hy:b[k]? with
  |some y=>
   have hlt2:=(B4.1 hy).1
   have hil2:(k:Int)<fs.length:=by omega
   have e2:fs[((k:Nat):Int).toNat]?=some [.sl (B6 y)]:=g2 k y hy
   have dy:b.drop k=y::b.drop (k+1):=by rw[S1 hlt2,(B4.1 hy).2]
   have happy:=happ y
   rw[<- hA] at happy
   have i4:q=(w++[y])++P7 (a.drop i) (b.drop (k+1)):=by
    rw[i3,dy,R1 hge,P7,P7,S6];rfl
   clear i3 happ dy hx hy g1 g2 ha hb
   repeat' first|refine st ?_|refine⟨λ_=>?_,λ_=>?_⟩|fail
   exact⟨i,k+1,w++[y],by rw[happy];first|done|rfl|simp,rfl,by rw[happy];rfl,by omega,by omega,by omega,i4⟩
  |none=>
   have hge2:=E9.1 hy
   have hil2:(fs.length:Int)<=k:=by omega
   have i4:q=w:=by rw[i3,R1 hge,R1 hge2,P7,U9]
   subst i4
   clear i3 happ hx hy g1 g2 ha hb
   rw[<- hA]
   repeat' first|refine st ?_|refine⟨λ_=>?_,λ_=>?_⟩|fail
   all_goals rfl
end Go.Proofs
end
section
namespace Go.Proofs
open Go.Bi
structure Rw where
 nl:Bool
 vs:B5
abbrev Rw.d(r:Rw):D:=ng r.nl (B6 r.vs)
def B7(l:List Rw):List (List D):=l.map λr=>[r.d]
theorem U8(l:List Rw):(B7 l).length=l.length:=by simp[B7]
theorem X2(l:List Rw):∀e∈B7 l,e.length=1:=by
 intro e he
 obtain⟨x,_,rfl⟩:=D7.1 he
 rfl
theorem A0W{l:List Rw}{i:Nat}{r:Rw}(h:l[i]?=some r):(B7 l)[i]?=some [r.d]:=by simp[B7,h]
theorem D5T(l:List Rw)(i:Nat):(B7 l).take i=B7 (l.take i):=by simp[B7]
theorem D5S(l:List Rw)(i:Nat):(B7 l).drop i=B7 (l.drop i):=by simp[B7]
def J0(l:List B5):List Rw:=l.map (Rw.mk false)
theorem A8S(l:List B5):B7 (J0 l)=rD l:=by
 unfold B7 J0 rD
 rw[V0]
 rfl
def A8(l:List Rw):List B5:=l.map Rw.vs
theorem A33(l:List B5):A8 (J0 l)=l:=by
 unfold A8 J0
 rw[V0]
 exact v8 _
def D1(l:List B5):List B5:=if h:l.length<=1 then l else P7 (D1 (l.take (l.length / 2))) (D1 (l.drop (l.length / 2)))
termination_by l.length
decreasing_by
 ·rw[M4];omega
 ·rw[Y2];omega
theorem A14:∀(n:Nat)(l:List B5),l.length<=n->(D1 l).length=l.length
 |0,l,h=>by rw[D1,dif_pos (by omega)]
 |n+1,l,h=>by
  rw[D1]
  split
  ·rfl
  ·rw[A78 _ _ _ (D3 _),A14 n _ (by rw[M4];omega),A14 n _ (by rw[Y2];omega),M4,Y2];omega
theorem A79:∀(n:Nat)(a b:List B5),a.length+b.length<=n->∀x,x∈P7 a b->x∈a\/x∈b
 |_,[],b,_,x,h=>by rw[P7] at h;exact .inr h
 |_,y::a,[],_,x,h=>by rw[A5y] at h;exact .inl h
 |0,y::a,z::b,h,_,_=>by simp at h
 |n+1,y::a,z::b,h,x,hx=>by
  simp only[H9] at h
  rw[P7] at hx
  split at hx
  ·rcases H2.1 hx with rfl|hx
   ·exact .inr (by simp)
   ·rcases A79 n _ _ (by simp only[H9];omega) x hx with h1|h1
    ·exact .inl h1
    ·exact .inr (I2 _ h1)
  ·rcases H2.1 hx with rfl|hx
   ·exact .inl (by simp)
   ·rcases A79 n _ _ (by simp only[H9];omega) x hx with h1|h1
    ·exact .inl (I2 _ h1)
    ·exact .inr h1
theorem A1I:∀(n:Nat)(l:List B5),l.length<=n->∀x,x∈D1 l->x∈l
 |0,l,h,x,hx=>by rw[D1,dif_pos (by omega)] at hx;exact hx
 |n+1,l,h,x,hx=>by
  rw[D1] at hx
  split at hx
  ·exact hx
  ·rcases A79 _ _ _ (D3 _) x hx with h1|h1
   ·exact A39 (A1I n _ (by rw[M4];omega) x h1)
   ·exact A2A (A1I n _ (by rw[Y2];omega) x h1)
theorem C6h:∀(n:Nat)(l:List Rw),l.length<=n->n<=4294967296->(∀r∈l,r.vs.length<=4294967296)->∀d,A9 d (B7 l)->Pure Tryz.prog B8r [.d d,.d .nil] (.d (.sl (rD (D1 (A8 l))))):=by
 intro n
 induction n with
 |zero=>
  intro l hn _ _ d hd
  have hl:l=[]:=A0J.1 (by omega)
  subst hl
  have h1:(B7 []).length=0:=rfl
  obtain⟨q,hq⟩:∃q,q=rD (D1 (A8 [])):=⟨_,rfl⟩
  have hq2:q=[]:=by rw[hq,D1,dif_pos (by decide)];rfl
  rw[<- hq,hq2]
  refine A81.go A6 rfl ?_
  repeat' first|refine st ?_|((with_reducible apply A4);conv=>whnf)|refine⟨λ_=>?_,λ_=>?_⟩|fail
  all_goals rfl
 |succ n ih=>
  intro l hn hN hr d hd
  have h1:=U8 l
  have hm:=X2 l
  have hg:=λi r=>@A0W l i r
  have hvl:(A8 l).length=l.length:=by unfold A8;rw[D8]
  obtain⟨q,hq⟩:∃q,q=rD (D1 (A8 l)):=⟨_,rfl⟩
  rw[<- hq]
  by_cases h0:l.length=0
  ·have hl:l=[]:=A0J.1 h0
   subst hl
   have hq2:q=[]:=by rw[hq,D1,dif_pos (by decide)];rfl
   have h1:(B7 []).length=0:=rfl
   rw[hq2]
   refine A81.go A6 rfl ?_
   repeat' first|refine st ?_|((with_reducible apply A4);conv=>whnf)|refine⟨λ_=>?_,λ_=>?_⟩|fail
   all_goals rfl
  by_cases h2:l.length=1
  ·obtain⟨r,rfl⟩:=List.length_eq_one_iff.1 h2
   have hq2:q=[[.sl (B6 r.vs)]]:=by rw[hq,D1,dif_pos (show(A8 [r]).length<=1 from D3 1)];rfl
   have hd:d=.sl [[r.d]]:=by
    rcases hd with ⟨_,h⟩|h
    ·cases h
    ·exact h
   subst hd
   have hrl:=hr r (by simp)
   have hrd:A9 r.d (B6 r.vs):=C7
   have hvl:=X3 r.vs
   have hvm:=T7 r.vs
   obtain⟨rd,hrd'⟩:∃z,z=r.d:=⟨_,rfl⟩
   rw[<- hrd'] at hrd ⊢
   obtain⟨E,hE⟩:∃z,z=B6 r.vs:=⟨_,rfl⟩
   rw[<- hE] at hrd hvl hvm hq2
   rw[hq2]
   clear hg hm h1 hq hq2 hrd' hE hr ih
   have hb:(([]:List (List D)).length+E.length)*32<=140737488355328/\([]:List (List D)).length+E.length<=9223372036854775807:=by simp;omega
   refine A81.go A6 rfl ?_
   repeat' first|refine st ?_|((with_reducible apply A4);conv=>whnf)|refine⟨λ_=>?_,λ_=>?_⟩|fail
   all_goals (cases E<;>rfl)
  ·have hm2:((l.length:Nat):Int).tdiv 2=((l.length / 2:Nat):Int):=by rw[A87 (by omega)];omega
   obtain⟨m,hmm⟩:∃m,m=l.length / 2:=⟨_,rfl⟩
   rw[<- hmm] at hm2
   have hml:m<=l.length:=by omega
   have hd:d=.sl (B7 l):=by
    rcases hd with ⟨_,h⟩|h
    ·rw[h] at h1;simp at h1;omega
    ·exact h
   have hA:=ih (l.take m) (by rw[M4];omega) (by omega) (λr h=>hr r (A39 h)) (.sl (((B7 l).drop (0:Int).toNat).take ((m:Int).toNat-(0:Int).toNat))) (by rw[show((m:Int).toNat-(0:Int).toNat)=m by simp];exact .inr (by rw[<- D5T];rfl))
   have hB:=ih (l.drop m) (by rw[Y2];omega) (by omega) (λr h=>hr r (A2A h)) (.sl (((B7 l).drop (m:Int).toNat).take ((l.length:Int).toNat-(m:Int).toNat))) (by
    rw[show((l.length:Int).toNat-(m:Int).toNat)=l.length-m by simp,show(m:Int).toNat=m from Int.toNat_natCast m]
    exact .inr (by rw[H4 (by rw[Y2,U8];omega),D5S]))
   have e1:A8 (l.take m)=(A8 l).take m:=by unfold A8;rw[List.map_take]
   have e2:A8 (l.drop m)=(A8 l).drop m:=by unfold A8;rw[List.map_drop]
   rw[e1] at hA
   rw[e2] at hB
   have hvr:∀r∈A8 l,r.length<=4294967296:=λr h=>by
    obtain⟨x,hx,rfl⟩:=D7.1 h
    exact hr x hx
   have n1:=A14 _ ((A8 l).take m) (D3 _)
   have n2:=A14 _ ((A8 l).drop m) (D3 _)
   have hM:=C6k (D1 ((A8 l).take m)) (D1 ((A8 l).drop m)) (by rw[n1,n2,M4,Y2];omega) (λr h=>hvr r (A39 (A1I _ _ (D3 _) r h))) (λr h=>hvr r (A2A (A1I _ _ (D3 _) r h)))
   have hq2:q=rD (P7 (D1 ((A8 l).take m)) (D1 ((A8 l).drop m))):=by
    rw[hq,D1,dif_neg (by rw[hvl];omega),hvl,<- hmm]
   rw[hq2]
   obtain⟨Z,hZ⟩:∃z,z=rD (P7 (D1 ((A8 l).take m)) (D1 ((A8 l).drop m))):=⟨_,rfl⟩
   obtain⟨Za,hZa⟩:∃z,z=rD (D1 ((A8 l).take m)):=⟨_,rfl⟩
   obtain⟨Zb,hZb⟩:∃z,z=rD (D1 ((A8 l).drop m)):=⟨_,rfl⟩
   rw[<- hZ] at hM ⊢
   rw[<- hZa] at hA hM
   rw[<- hZb] at hB hM
   subst hd
   obtain⟨es,hes⟩:∃z,z=B7 l:=⟨_,rfl⟩
   rw[<- hes] at hA hB h1 hm ⊢
   rw[<- h1] at hm2 hB
   have hml:(m:Int)<=es.length:=by omega
   have h00:¬(es.length:Int)=0:=by omega
   have h11:¬(es.length:Int)=1:=by omega
   clear hg hq hq2 hZ hZa hZb hes hr ih hvr n1 n2 e1 e2
   refine A81.go A6 rfl ?_
   repeat' first|(rw[hm2])|refine st ?_|((with_reducible apply A4);conv=>whnf)|refine⟨λ_=>?_,λ_=>?_⟩|fail
   all_goals rfl
theorem A0p(l:List Rw)(hl:l.length<=4294967296)(hr:∀r∈l,r.vs.length<=4294967296)(d:D)(hd:A9 d (B7 l)):Pure Tryz.prog B0U [.d d] (.d (.sl (rD (D1 (A8 l))))):=by
 have hO:=C6h _ l (D3 _) hl hr d hd
 obtain⟨Z,hZ⟩:∃z,z=rD (D1 (A8 l)):=⟨_,rfl⟩
 rw[<- hZ] at hO ⊢
 refine C7k.go A6 rfl ?_
 repeat' first|refine st ?_|((with_reducible apply A4);conv=>whnf)|refine⟨λ_=>?_,λ_=>?_⟩|fail
 all_goals rfl
def S3:Option B5->List B5->List B5
 |_,[]=>[]
 |none,x::r=>x::S3 (some x) r
 |some p,x::r=>if K5 p x=0 then S3 (some x) r else x::S3 (some x) r
theorem A8P:∀(l:List B5)(p:Option B5),(S3 p l).length<=l.length
 |[],p=>by cases p<;>simp[S3]
 |x::r,none=>by have:=A8P r (some x);simp only[S3,H9];omega
 |x::r,some p=>by
  have:=A8P r (some x)
  simp only[S3]
  split
  ·simp only[H9];omega
  ·simp only[H9];omega
def A2U(l:List B5)(i:Nat):Option B5:=if i=0 then none else l[i-1]?
theorem C6f(l:List Rw)(hl:l.length<=4294967296)(hr:∀r∈l,r.vs.length<=4294967296)(d:D)(hd:A9 d (B7 l)):Pure Tryz.prog B8o [.d d] (.d (.sl (rD (S3 none (D1 (A8 l)))))):=by
 have hO:=A0p l hl hr d hd
 have hvl:(A8 l).length=l.length:=by unfold A8;rw[D8]
 have hol:=A14 _ (A8 l) (D3 _)
 have hor:∀r∈D1 (A8 l),r.length<=4294967296:=λr h=>by
  obtain⟨x,hx,rfl⟩:=D7.1 (A1I _ _ (D3 _) r h)
  exact hr x hx
 obtain⟨Z,hZ⟩:∃z,z=D1 (A8 l):=⟨_,rfl⟩
 rw[<- hZ] at hO hol hor ⊢
 have l1:=p9 Z
 have m1:=r5 Z
 have g1:=λi v=>@A2V Z i v
 obtain⟨es,hes⟩:∃z,z=rD Z:=⟨_,rfl⟩
 rw[<- hes] at hO l1 m1 g1
 clear hes hZ hd hr
 have hql:=A8P Z none
 obtain⟨q,hq⟩:∃q,q=S3 none Z:=⟨_,rfl⟩
 rw[<- hq] at hql ⊢
 refine C7d.go A6 rfl ?_
 repeat' first|refine st ?_|((with_reducible apply A4);conv=>whnf)|refine⟨λ_=>?_,λ_=>?_⟩|fail
 refine L6 A6 D0n C96 (λ(i:Nat) (w:List B5)=>[.arr 0 (rD w).length,.d (eI i)]) (λi w=>[.arr (rD w) 1 0 false]) (λi w=>i<=Z.length/\w.length<=i/\q=w++S3 (A2U Z i) (Z.drop i)) (λi w=>Z.length-i) 0 [] rfl rfl rfl rfl (λ_ _ _=>⟨rfl,rfl⟩) rfl ⟨by omega,D3 _,hq⟩ ?_
 repeat' first|refine st ?_|((with_reducible apply A4);conv=>whnf)|refine⟨λ_=>?_,λ_=>?_⟩|fail
 intro i w ⟨i1,i2,i3⟩
 clear hq
 have hw1:=p9 w
 have hwm:=r5 w
 have hbd:((rD w).length+1)*24<=140737488355328:=by omega
 have happ:=λx=>show rD (w++[x])=rD w++[[.sl (B6 x)]] by rw[A2i];rfl
 obtain⟨A,hA⟩:∃z,z=rD w:=⟨_,rfl⟩
 rw[<- hA] at hw1 hwm hbd ⊢
 cases hx:Z[i]? with
 |some x=>
  have hlt:=(B4.1 hx).1
  have hil:(i:Int)<es.length:=by omega
  have e1:es[((i:Nat):Int).toNat]?=some [.sl (B6 x)]:=g1 i x hx
  have dx:Z.drop i=x::Z.drop (i+1):=by rw[S1 hlt,(B4.1 hx).2]
  have hp:A2U Z (i+1)=some x:=by unfold A2U;rw[if_neg (by omega)];exact hx
  have happx:=happ x
  rw[<- hA] at happx
  by_cases h0:i=0
  ·subst h0
   have i4:q=(w++[x])++S3 (A2U Z 1) (Z.drop 1):=by
    rw[i3,dx,hp,S6];rfl
   clear i3 happ dx hp hx g1
   repeat' first|refine st ?_|((with_reducible apply A4);conv=>whnf)|refine⟨λ_=>?_,λ_=>?_⟩|fail
   exact⟨1,w++[x],by rw[happx];first|done|rfl|simp,rfl,by rw[happx];rfl,by omega,by omega,by rw[H8];exact Nat.add_le_add_right i2 1,i4⟩
  ·obtain⟨p,hpp⟩:∃p,Z[i-1]?=some p:=⟨_,F4 (by omega)⟩
   have e2:es[((i:Int)-1).toNat]?=some [.sl (B6 p)]:=by rw[show((i:Int)-1).toNat=i-1 by omega];exact g1 (i-1) p hpp
   have hpi:A2U Z i=some p:=by unfold A2U;rw[if_neg h0];exact hpp
   have hE:=A5Y p x (hor p (C3 hpp)) (hor x (C3 hx)) (.sl (B6 p)) (.sl (B6 x)) (.inr rfl) (.inr rfl)
   have hi0:¬(i:Int)=0:=by omega
   by_cases hc:K5 p x=0
   ·rw[decide_eq_true hc] at hE
    have i4:q=w++S3 (A2U Z (i+1)) (Z.drop (i+1)):=by
     rw[i3,dx,hp,hpi,S3,if_pos hc]
    clear i3 happ dx hp hx g1 happx hpp hpi
    repeat' first|refine st ?_|((with_reducible apply A4);conv=>whnf)|refine⟨λ_=>?_,λ_=>?_⟩|fail
    exact⟨i+1,w,by rw[hA];first|done|rfl,rfl,by rw[hA];first|done|rfl,by omega,by omega,by omega,i4⟩
   ·rw[decide_eq_false hc] at hE
    have i4:q=(w++[x])++S3 (A2U Z (i+1)) (Z.drop (i+1)):=by
     rw[i3,dx,hp,hpi,S3,if_neg hc,S6];rfl
    clear i3 happ dx hp hx g1 hpp hpi
    repeat' first|refine st ?_|((with_reducible apply A4);conv=>whnf)|refine⟨λ_=>?_,λ_=>?_⟩|fail
    exact⟨i+1,w++[x],by rw[happx];first|done|rfl|simp,rfl,by rw[happx];rfl,by omega,by omega,by rw[H8];exact Nat.add_le_add_right i2 1,i4⟩
 |none=>
  have hge:=E9.1 hx
  have hil:(es.length:Int)<=i:=by omega
  have i4:q=w:=by rw[i3,R1 hge];cases A2U Z i<;>simp[S3]
  subst i4
  clear i3 happ hx g1
  rw[<- hA]
  repeat' first|refine st ?_|((with_reducible apply A4);conv=>whnf)|refine⟨λ_=>?_,λ_=>?_⟩|fail
  all_goals rfl
end Go.Proofs
end
section
namespace Go.Proofs
open Go.Bi
structure Ag where
 op:Int
 arg:Int
abbrev Ag.ds(a:Ag):List D:=[eI a.op,eI a.arg]
def I0(l:List Ag):List (List D):=l.map Ag.ds
theorem A5c(l:List Ag):(I0 l).length=l.length:=by simp[I0]
theorem A6H(l:List Ag):∀e∈I0 l,e.length=2:=by
 intro e he
 obtain⟨x,_,rfl⟩:=D7.1 he
 rfl
theorem B1P{l:List Ag}{i:Nat}{a:Ag}(h:l[i]?=some a):(I0 l)[i]?=some a.ds:=by simp[I0,h]
structure Po where
 op:Int
 n:Int
 nk:Bool
 ki:List Int
 nr:Bool
 rows:List Rw
 pred:Ex
 nx:Bool
 xs:List Ex
 ny:Bool
 keys:List Int
 na:Bool
 aggs:List Ag
abbrev Po.dk(o:Po):D:=ng o.nk (A5 o.ki)
abbrev Po.dr(o:Po):D:=ng o.nr (B7 o.rows)
abbrev Po.dx(o:Po):D:=ng o.nx (xL o.xs)
abbrev Po.dy(o:Po):D:=ng o.ny (A5 o.keys)
abbrev Po.da(o:Po):D:=ng o.na (I0 o.aggs)
inductive Pl where
 |mk (o:Po) (ni:Bool) (ins:List Pl)
theorem Pl.ind{p:Pl->Prop}(h:∀o ni ins,(∀a∈ins,p a)->p (.mk o ni ins)):∀e,p e
 |.mk o ni ins=>h _ _ _ λa ha=>Pl.ind h a
termination_by e=>SizeOf.sizeOf e
decreasing_by
 have:=List.sizeOf_lt_of_mem ha
 simp only[Pl.mk.sizeOf_spec]
 omega
abbrev B2K(o:Po)(di:D):List D:=[eI o.op,eI o.n,o.dk,o.dr]++o.pred.ds++[o.dx,o.dy,o.da,di]
mutual
def Pl.ds:Pl->List D
 |.mk o ni ins=>B2K o (ng ni (Pl.dss ins))
def Pl.dss:List Pl->List (List D)
 |[]=>[]
 |e::es=>e.ds::Pl.dss es
end
theorem Pl.dss_eq:∀l,Pl.dss l=l.map Pl.ds
 |[]=>by simp[Pl.dss]
 |e::es=>by simp[Pl.dss,Pl.dss_eq es]
def pL(l:List Pl):List (List D):=l.map Pl.ds
theorem Pl.ds_mk(o:Po)(ni:Bool)(ins:List Pl):(Pl.mk o ni ins).ds=B2K o (ng ni (pL ins)):=by
 rw[Pl.ds,Pl.dss_eq];rfl
def Pl.av(e:Pl):AV:=.agg (e.ds.map .d)
abbrev G3(op n:Int)(dk dr:D)(xo xn:Int)(xv:Vl)(xm:List UInt8)(xd:D)(dx dy da di:D):AV:=.agg [.d (eI op),.d (eI n),.d dk,.d dr,.d (eI xo),.d (eI xn),.d (eI xv.k),.d (eI xv.n),.d (.str xv.s),.d (.str xm),.d xd,.d dx,.d dy,.d da,.d di]
abbrev K1(op n:Int)(dk dr:D)(xo xn:Int)(xv:Vl)(xm:List UInt8)(xd:D)(dx dy da di:D):List D:=[eI op,eI n,dk,dr,eI xo,eI xn,eI xv.k,eI xv.n,.str xv.s,.str xm,xd,dx,dy,da,di]
theorem Pl.ds_eq(o:Po)(ni:Bool)(ins:List Pl)(xo xn:Int)(xv:Vl)(xm:List UInt8)(xl:Bool)(xa:List Ex)(h:o.pred=.mk xo xn xv xm xl xa) :
  (Pl.mk o ni ins).ds=K1 o.op o.n o.dk o.dr xo xn xv xm (ng xl (xL xa)) o.dx o.dy o.da (ng ni (pL ins)):=by
 rw[Pl.ds_mk]
 unfold B2K
 rw[h,Ex.ds_mk]
 rfl
theorem Pl.av_eq(o:Po)(ni:Bool)(ins:List Pl)(xo xn:Int)(xv:Vl)(xm:List UInt8)(xl:Bool)(xa:List Ex)(h:o.pred=.mk xo xn xv xm xl xa) :
  (Pl.mk o ni ins).av=G3 o.op o.n o.dk o.dr xo xn xv xm (ng xl (xL xa)) o.dx o.dy o.da (ng ni (pL ins)):=by
 rw[Pl.av,Pl.ds_eq o ni ins xo xn xv xm xl xa h];rfl
theorem b5(l:List Pl):(pL l).length=l.length:=by simp[pL]
theorem Pl.ds_len(p:Pl):p.ds.length=15:=by
 obtain⟨⟨op,n,nk,ki,nr,rows,⟨xo,xn,xv,xm,xl,xa⟩,nx,xs,ny,keys,na,aggs⟩,ni,ins⟩:=p
 rw[Pl.ds_eq _ _ _ _ _ _ _ _ _ rfl];rfl
theorem e9(l:List Pl):∀e∈pL l,e.length=15:=by
 intro e he
 obtain⟨p,_,rfl⟩:=D7.1 he
 exact p.ds_len
theorem j6{l:List Pl}{i:Nat}{e:Pl}(h:l[i]?=some e):(pL l)[i]?=some e.ds:=by simp[pL,h]
def Pl.bk(e:Pl):Nat:=J8 e.ds
theorem A22(nl:Bool)(l:List (List D)):D6 l<=T6 (ng nl l):=by
 unfold ng
 split
 ·rename_i h
  simp only[K7,A0r] at h
  rw[h.2];simp[D6]
 ·simp only[T6];omega
theorem Pl.bk_mk(o:Po)(ni:Bool)(ins:List Pl):D6 (A5 o.ki)+D6 (B7 o.rows)+o.pred.bk+D6 (xL o.xs)+D6 (A5 o.keys)+D6 (I0 o.aggs)+D6 (pL ins)+2<=(Pl.mk o ni ins).bk:=by
 obtain⟨op,n,nk,ki,nr,rows,⟨xo,xn,xv,xm,xl,xa⟩,nx,xs,ny,keys,na,aggs⟩:=o
 rw[Pl.bk,Pl.ds_eq _ _ _ _ _ _ _ _ _ rfl,Ex.bk,Ex.ds_mk]
 have h1:=A22 nk (A5 ki)
 have h2:=A22 nr (B7 rows)
 have h3:=A22 nx (xL xs)
 have h4:=A22 ny (A5 keys)
 have h5:=A22 na (I0 aggs)
 have h6:=A22 ni (pL ins)
 simp only[K1,Po.dk,Po.dr,Po.dx,Po.dy,Po.da,T5,J8,T6] at *
 omega
theorem Pl.bk_arg{o:Po}{ni:Bool}{ins:List Pl}{a:Pl}(h:a∈ins):a.bk<(Pl.mk o ni ins).bk:=by
 have h1:=Pl.bk_mk o ni ins
 have h2:J8 a.ds<=D6 (pL ins):=A23 (D7.2 ⟨a,h,rfl⟩)
 unfold Pl.bk at *
 omega
theorem B1Q(l:List Int):l.length<=D6 (A5 l):=by
 rw[<- F9 l]
 refine A4a λx hx=>?_
 obtain⟨k,_,rfl⟩:=D7.1 hx
 simp[J8,T6]
theorem C1c(l:List Rw):l.length<=D6 (B7 l):=by
 rw[<- U8 l]
 refine A4a λx hx=>?_
 obtain⟨k,_,rfl⟩:=D7.1 hx
 simp only[J8]
 unfold Rw.d ng
 split<;>simp[T6]<;>omega
theorem D5L(l:List Ag):l.length<=D6 (I0 l):=by
 rw[<- A5c l]
 refine A4a λx hx=>?_
 obtain⟨k,_,rfl⟩:=D7.1 hx
 simp[Ag.ds,J8,T6]
theorem D8B(l:List Pl):l.length<=D6 (pL l):=by
 rw[<- b5 l]
 refine A4a λx hx=>?_
 obtain⟨p,_,rfl⟩:=D7.1 hx
 obtain⟨o,ni,ins⟩:=p
 have:=Pl.bk_mk o ni ins
 unfold Pl.bk at this
 omega
theorem C1d(l:List Vl):l.length<=D6 (B6 l)/\∀v∈l,v.s.length<=D6 (B6 l):=by
 constructor
 ·rw[<- X3 l]
  refine A4a λx hx=>?_
  obtain⟨k,_,rfl⟩:=D7.1 hx
  simp only[Vl.ds,J8,T6];omega
 ·intro v hv
  have h3:J8 v.ds<=D6 (B6 l):=A23 (D7.2 ⟨v,hv,rfl⟩)
  have h4:v.s.length<=J8 v.ds:=by simp only[Vl.ds,J8,T6];omega
  omega
structure Pl.Bd(o:Po)(l:List Pl)(B:Nat):Prop where
 ki:o.ki.length<=B
 nr:o.rows.length<=B
 row:∀r∈o.rows,r.vs.length<=B/\∀v∈r.vs,v.s.length<=B
 pred:o.pred.bk<=B
 xs:o.xs.length<=B
 xb:∀e∈o.xs,e.bk<=B
 keys:o.keys.length<=B
 aggs:o.aggs.length<=B
 il:l.length<=B
 sub:∀a∈l,a.bk<=B
theorem Pl.bd{o:Po}{ni:Bool}{ins:List Pl}{B:Nat}(h:(Pl.mk o ni ins).bk<=B):Pl.Bd o ins B:=by
 have h1:=Pl.bk_mk o ni ins
 have a1:=B1Q o.ki
 have a2:=C1c o.rows
 have a3:=C4u o.xs
 have a4:=B1Q o.keys
 have a5:=D5L o.aggs
 have a6:=D8B ins
 refine⟨by omega,by omega,λr hr=>?_,by omega,by omega,λe he=>?_,by omega,by omega,by omega,λa ha=>?_⟩
 ·have b1:J8 [ng r.nl (B6 r.vs)]<=D6 (B7 o.rows):=A23 (D7.2 ⟨r,hr,rfl⟩)
  have b2:=A22 r.nl (B6 r.vs)
  have b3:D6 (B6 r.vs)<=B:=by simp only[J8] at b1;omega
  obtain⟨c1,c2⟩:=C1d r.vs
  exact⟨by omega,λv hv=>K4 (c2 v hv) b3⟩
 ·have b1:J8 e.ds<=D6 (xL o.xs):=A23 (D7.2 ⟨e,he,rfl⟩)
  unfold Ex.bk
  omega
 ·have:=Pl.bk_arg (o:=o) (ni:=ni) ha
  omega
end Go.Proofs
end
