/- Texts of this claim, joined. No condition. -/
import Derived.Test.YtfnaleemmeejcaaGreatBi
import Derived.Test.YtfnaleemmeejcaaGreatIc0
import Derived.Test.YtfnaleemmeejcaaGreatIc1
import Derived.Lib.Strings
import Derived.Lib.Slices
import Derived.Lib.Walk
import Derived.Lib.Bytealg
set_option linter.unusedSimpArgs false
set_option linter.unusedVariables false
set_option maxRecDepth 10000
set_option maxHeartbeats 4000000
section
namespace Go.Bi
open Go
section
variable {P:Program}{n nb:Nat}{M:D6}{G:Gh}{os:List AO}{w:World}{ρ:D7}{a:Act}
def A7M(Q:AV->List AO->Prop)(rs:List RV)(ρ:D7)(os:List AO):Prop:=v8 ρ os rs λl=>match l with
 |[v]=>Q v os
 |_=>False
def A7K(Q:AV->List AO->Prop)(rs:List RV)(L:Sl)(os:List AO):Prop:=A4Z L os rs λl=>match l with
 |[v]=>Q v os
 |_=>False
theorem C4E{Q:AV->List AO->Prop}{rs:List RV}{L:Sl}{os:List AO}(h:A7K Q rs L os):A7M Q rs (E7 L) os:=A6a h
theorem E14{c:Ctx}(hR:Z5 n nb c M G os w ρ a){fn:Func}{rs:List RV}(hrs:fn.results.toList.mapM (cRV P)=some rs){Q:AV->List AO->Prop}(h:A7M Q rs ρ os) :
  ∃v,(results fn a.tmps).run P w=.ok v w/\∃M' G' r os',C8 M' G' os' w/\F9 c.M c.G c.os c.w M' G' os' w/\VA M' G' os' r v/\Q r os':=by
 obtain⟨l,vs,h1,h2,h3,h4⟩:=B02 hR.env hR.tmps _ rs hrs _ h
 match l,h1,h3,h4 with
 |[x],h1,h3,h4=>
  simp only[H7,k9] at h3
  refine⟨_,B3r h2,M,G,x,os,hR.env,hR.since,?_,h1⟩
  rw[dif_pos (by omega)]
  exact h4 0 x vs[0] rfl (F1 (by omega))
theorem D8W(hm:P.follows .mixedOrders=true){f:FuncId}{fn:Func}{code:Code}{ic:IC}{rs:List RV}(hf:P.funcs[f]?=some fn)(hname:fn.name≠ "runtime.NumGoroutine")(hb:fn.body=some code)(hc:cC P fn.ntmps code=some ic)
  (hrs:fn.results.toList.mapM (cRV P)=some rs) {args:List AV} {bs:List AO} (hargs:args.length<=fn.ntmps) {Q:AV->List AO->Prop}
  (h:b8 P fn.ntmps bs.length ic {norm:=A7M Q rs,exit:=λ_ _ _=>False,ret:=A7M Q rs} (A2k args) bs):C0 P f args bs Q:=by
 refine⟨⟨fn,hf,by rw[hb];rfl,hname⟩,λM G w vs he hl hv=>?_⟩
 refine calls_of_wp hf hb (wp_mono (A87 hm code ic hc _ _ _ h ⟨M,G,bs,w⟩ M G w {tmps:=vs++Array.replicate (fn.ntmps-vs.size) undef,defers:=[]} ?_) λe a' w' hp=>?_)
 ·exact {
   env:=he,since:=F9.refl ..,size:=by simp;omega,defers:=rfl,base:=rfl
   tmps:=λt=>by
    unfold A2k
    by_cases ht:t<args.length
    ·have h1:(vs++Array.replicate (fn.ntmps-vs.size) undef).getD t undef=vs[t]:=by
      simp[A2Q (show t<vs.size by omega),show t<vs.size by omega]
     have h2:args.getD t .junk=args[t]:=by simp[ht]
     show VA M G bs (args.getD t .junk) ((vs++Array.replicate (fn.ntmps-vs.size) undef).getD t undef)
     rw[h1,h2]
     have:=hv t args[t] vs[t] (F1 ht) (N2 (by omega))
     generalize args[t]=c at this
     cases c with
     |tup cs=>exact this.elim
     |junk=>trivial
     |_=>exact this
    ·have:args.getD t .junk=.junk:=by simp[H6,A1C (Nat.le_of_not_lt ht)]
     rw[this]
     trivial}
 ·have fin:A10 fn.ntmps bs.length ⟨M,G,bs,w⟩ (A7M Q rs) a' w'->a'.defers=[]/\∃v,(results fn a'.tmps).run P w'=.ok v w'/\∃v',Ending.returned v=.returned v'/\∃M' G' r os',C8 M' G' os' w'/\F9 M G bs w M' G' os' w'/\VA M' G' os' r v'/\Q r os':=by
   rintro⟨M',G',os',ρ',hR,hk⟩
   obtain⟨v,h1,h2⟩:=E14 hR hrs hk
   exact⟨hR.defers,v,h1,v,rfl,h2⟩
  cases e with
  |normal=>exact fin hp
  |ret=>exact fin hp
  |exit id=>obtain⟨_,_,_,_,_,hk⟩:=hp;exact hk.elim
  |_=>exact hp.elim
end
theorem B5.goO{P:Program}(hm:P.follows .mixedOrders=true){f n:Nat}{ic:IC}{rs:List RV}(h:B5 P f n ic rs){args:List AV}{bs:List AO}(hargs:Nat.ble args.length n=true){Q:AV->List AO->Prop}
  (hw:Go (xI P n bs.length ic (A7K Q rs) (λ_ _ _=>False) (A7K Q rs) (A1K 0 args) bs)):C0 P f args bs Q:=by
 obtain⟨fn,h1,h2,h3,h4,h5⟩:=h
 obtain⟨code,hb,hc⟩:=i6.1 h4
 subst h2
 refine D8W hm h1 (by simpa using h3) hb hc h5 (R6 hargs) ?_
 rw[B2X]
 exact A3w (K:=⟨A7K Q rs,λ_ _ _=>False,A7K Q rs⟩) ⟨λL os h=>C4E h,λ_ _ _ h=>h,λL os h=>C4E h⟩ hw
theorem C0.alone{P:Program}{g:FuncId}{args:List AV}{Q:AV->List AO->Prop}(h:C0 P g args [] Q)(hd:∀a∈args,∃x,a=.d x)(os:List AO) :
  C0 P g args os (λr os'=>∃r0 os0,Q r0 os0/\r=mA (rn [] os.length) r0/\os'=os++os0.map (mO (rn [] os.length))):=by
 have:=C0.frame (K:=λr os'=>∃r0 os0,Q r0 os0/\r=mA (rn [] os.length) r0/\os'=os++os0.map (mO (rn [] os.length))) h [] os rfl (by simp) (λi x hx=>by simp at hx)
  (λa ha=>by obtain⟨x,rfl⟩:=hd a ha;trivial) (λx hx=>by simp at hx) (λr bs' hq=>⟨r,bs',hq,rfl,rfl⟩)
 have e:args.map (mG (rn [] os.length))=args:=by
  rw[P3 (g:=id) (λa ha=>by obtain⟨x,rfl⟩:=hd a ha;rfl),A05]
 rwa [e] at this
end Go.Bi
end
section
namespace Go.Proofs
open Go.Bi
abbrev eI(n:Int):D:=.int .i64 n
abbrev eP(a b:Int):AV:=.agg [.d (eI a),.d (eI b)]
def A5(l:List Int):List (List D):=l.map λr=>[eI r]
theorem Q1{l:List Int}{i:Nat}{r:Int}(h:l[i]?=some r):(A5 l)[i]?=some [eI r]:=by simp[A5,h]
theorem G4(l:List Int):(A5 l).length=l.length:=by simp[A5]
theorem I0(l:List Int):∀e∈A5 l,e.length=1:=by
 intro e he
 obtain⟨x,_,rfl⟩:=D9.1 he
 rfl
theorem B2W{es:List (List D)}{nl:Bool}(h:nl=es.isEmpty):w7 nl .nil (.sl es)=M4 es:=by
 subst h
 cases es<;>rfl
theorem A4w{α:Type}{f:α->Bool}{l:List α}{i:Nat}{x:α}(h:l[i]?=some x):(l.take (i+1)).all f=((l.take i).all f&&f x):=by
 simp only[L5,h,List.all_append,Option.toList,A1B,List.all_nil,Bool.and_true]
theorem A3L{α:Type}{f:α->Bool}{l:List α}{i:Nat}{x:α}(h:l[i]?=some x)(hx:f x=false):l.all f=false:=by
 rw[A50]
 intro ha
 rw[K8.1 ha x (C3 h)] at hx
 cases hx
def U2(a b:Int):Bool:=decide (0<=a/\a<b/\b<=1099511627776)
theorem C6C(a b:Int):Pure Tryz.prog A8P [eP a b] (.d (.bool (U2 a b))):=by
 refine C9Y.go A6 rfl ?_
 repeat' first|refine st ?_|refine⟨λ_=>?_,λ_=>?_⟩|fail
 all_goals (simp_all[U2]<;>omega)
def T1(a b c d:Int):Int×Bool:=
 if U2 a b&&U2 c d then
  (if b<c then 0 else if b=c then 1 else if d<a then 12 else if d=a then 11 else if a=c/\b=d then 6
  else if a=c/\b<d then 3 else if a=c then 9 else if b=d/\a > c then 5 else if b=d then 7 else if a<c/\d<b then 8 else if c<a/\b<d then 4 else if a<c then 2 else 10,true)
 else (0,false)
theorem C6c(a b c d:Int):Pure Tryz.prog B8R [eP a b,eP c d] (.tup [.d (.int .i64 (T1 a b c d).1),.d (.bool (T1 a b c d).2)]):=by
 refine C87.go A6 rfl ?_
 repeat' first|refine st ?_|((with_reducible first|apply E9|apply E8);(·exact C6C _ _))|refine⟨λ_=>?_,λ_=>?_⟩|fail
 all_goals simp_all[T1]
 all_goals (repeat' split)<;>omega
theorem E1v(a b c d:Int):0<=(T1 a b c d).1/\(T1 a b c d).1<13:=by
 by_cases h:(U2 a b&&U2 c d)=true
 ·rw[T1,if_pos h]
  dsimp only
  repeat' split
  all_goals omega
 ·rw[T1,if_neg h]
  exact⟨by decide,by decide⟩
theorem C7K(a b:Int):Pure Tryz.prog B91 [eP a b] (.d (.bool (U2 a b))):=by
 refine C8g.go A6 rfl ?_
 repeat' first|refine st ?_|refine⟨λ_=>?_,λ_=>?_⟩|fail
 all_goals (simp_all[U2]<;>omega)
def f5(r a b c d:Int):Bool:=
 if r=0 then decide (b<c) else if r=1 then decide (b=c) else if r=2 then decide (a<c/\c<b/\b<d) else if r=3 then decide (a=c/\b<d) else if r=4 then decide (c<a/\b<d)
 else if r=5 then decide (b=d/\c<a) else if r=6 then decide (a=c/\b=d) else if r=7 then decide (b=d/\a<c) else if r=8 then decide (a<c/\d<b) else if r=9 then decide (a=c/\d<b)
 else if r=10 then decide (c<a/\a<d/\d<b) else if r=11 then decide (d=a) else if r=12 then decide (d<a) else false
theorem C7I(r a b c d:Int):Pure Tryz.prog B93 [.d (eI r),eP a b,eP c d] (.d (.bool (f5 r a b c d))):=by
 refine C8i.go A6 rfl ?_
 repeat' first|refine st ?_|refine⟨λ_=>?_,λ_=>?_⟩|fail
 all_goals simp_all[f5]
 all_goals (intros;omega)
theorem D9f(a b c d:Int)(h1:U2 a b=true)(h2:U2 c d=true):f5 (T1 a b c d).1 a b c d=true:=by
 simp only[U2,decide_eq_true_eq] at h1 h2
 have h:(U2 a b&&U2 c d)=true:=by simp[U2,h1,h2]
 rw[T1,if_pos h]
 dsimp only
 repeat' split
 all_goals (simp[f5];try omega)
theorem D9h(r a b c d:Int)(h1:U2 a b=true)(h2:U2 c d=true)(h3:f5 r a b c d=true):(T1 a b c d).1=r:=by
 simp only[U2,decide_eq_true_eq] at h1 h2
 have h:(U2 a b&&U2 c d)=true:=by simp[U2,h1,h2]
 have hr:0<=r/\r<13:=by
  by_cases hr:0<=r/\r<13
  ·exact hr
  ·unfold f5 at h3
   rw[if_neg (by omega),if_neg (by omega),if_neg (by omega),if_neg (by omega),if_neg (by omega),if_neg (by omega),if_neg (by omega),if_neg (by omega),if_neg (by omega),if_neg (by omega),if_neg (by omega),if_neg (by omega),if_neg (by omega)] at h3
   cases h3
 rw[T1,if_pos h]
 dsimp only
 rcases(show r=0\/r=1\/r=2\/r=3\/r=4\/r=5\/r=6\/r=7\/r=8\/r=9\/r=10\/r=11\/r=12 by omega) with rfl|rfl|rfl|rfl|rfl|rfl|rfl|rfl|rfl|rfl|rfl|rfl|rfl
 ·have hh:=h3;simp only[f5,decide_eq_true_eq] at hh;simp at hh
  rw[if_pos (by omega)]
 ·have hh:=h3;simp only[f5,decide_eq_true_eq] at hh;simp at hh
  rw[if_neg (by omega),if_pos (by omega)]
 ·have hh:=h3;simp only[f5,decide_eq_true_eq] at hh;simp at hh
  rw[if_neg (by omega),if_neg (by omega),if_neg (by omega),if_neg (by omega),if_neg (by omega),if_neg (by omega),if_neg (by omega),if_neg (by omega),if_neg (by omega),if_neg (by omega),if_neg (by omega),if_pos (by omega)]
 ·have hh:=h3;simp only[f5,decide_eq_true_eq] at hh;simp at hh
  rw[if_neg (by omega),if_neg (by omega),if_neg (by omega),if_neg (by omega),if_neg (by omega),if_pos (by omega)]
 ·have hh:=h3;simp only[f5,decide_eq_true_eq] at hh;simp at hh
  rw[if_neg (by omega),if_neg (by omega),if_neg (by omega),if_neg (by omega),if_neg (by omega),if_neg (by omega),if_neg (by omega),if_neg (by omega),if_neg (by omega),if_neg (by omega),if_pos (by omega)]
 ·have hh:=h3;simp only[f5,decide_eq_true_eq] at hh;simp at hh
  rw[if_neg (by omega),if_neg (by omega),if_neg (by omega),if_neg (by omega),if_neg (by omega),if_neg (by omega),if_neg (by omega),if_pos (by omega)]
 ·have hh:=h3;simp only[f5,decide_eq_true_eq] at hh;simp at hh
  rw[if_neg (by omega),if_neg (by omega),if_neg (by omega),if_neg (by omega),if_pos (by omega)]
 ·have hh:=h3;simp only[f5,decide_eq_true_eq] at hh;simp at hh
  rw[if_neg (by omega),if_neg (by omega),if_neg (by omega),if_neg (by omega),if_neg (by omega),if_neg (by omega),if_neg (by omega),if_neg (by omega),if_pos (by omega)]
 ·have hh:=h3;simp only[f5,decide_eq_true_eq] at hh;simp at hh
  rw[if_neg (by omega),if_neg (by omega),if_neg (by omega),if_neg (by omega),if_neg (by omega),if_neg (by omega),if_neg (by omega),if_neg (by omega),if_neg (by omega),if_pos (by omega)]
 ·have hh:=h3;simp only[f5,decide_eq_true_eq] at hh;simp at hh
  rw[if_neg (by omega),if_neg (by omega),if_neg (by omega),if_neg (by omega),if_neg (by omega),if_neg (by omega),if_pos (by omega)]
 ·have hh:=h3;simp only[f5,decide_eq_true_eq] at hh;simp at hh
  rw[if_neg (by omega),if_neg (by omega),if_neg (by omega),if_neg (by omega),if_neg (by omega),if_neg (by omega),if_neg (by omega),if_neg (by omega),if_neg (by omega),if_neg (by omega),if_neg (by omega),if_neg (by omega)]
 ·have hh:=h3;simp only[f5,decide_eq_true_eq] at hh;simp at hh
  rw[if_neg (by omega),if_neg (by omega),if_neg (by omega),if_pos (by omega)]
 ·have hh:=h3;simp only[f5,decide_eq_true_eq] at hh;simp at hh
  rw[if_neg (by omega),if_neg (by omega),if_pos (by omega)]
theorem D9g(r a b c d:Int)(h1:U2 a b=true)(h2:U2 c d=true):f5 r a b c d=decide ((T1 a b c d).1=r):=by
 rw[A0Z,decide_eq_true_eq]
 exact⟨D9h r a b c d h1 h2,λe=>by rw[<- e];exact D9f a b c d h1 h2⟩
theorem C4y(a b c d:Int):(T1 a b c d).2=(U2 a b&&U2 c d):=by
 by_cases h:(U2 a b&&U2 c d)=true
 ·rw[T1,if_pos h,h]
 ·rw[T1,if_neg h,A50.2 h]
theorem E1u{a b c d:Int}(h:(U2 a b&&U2 c d)=false):T1 a b c d=(0,false):=by
 unfold T1;rw[h];rfl
theorem C7H(r a b c d:Int):Pure Tryz.prog B92 [.d (eI r),eP a b,eP c d] (.d (.bool ((T1 a b c d).2&&decide ((T1 a b c d).1=r)))):=by
 refine C8h.go A6 rfl ?_
 rw[C4y]
 repeat' first|refine st ?_|((with_reducible first|apply E9|apply E8);(·first|exact C7K _ _|exact C7I _ _ _ _ _))|refine⟨λ_=>?_,λ_=>?_⟩|fail
 ·rename_i h1 h2
  rw[D9g _ _ _ _ _ h1 h2,h1,h2];rfl
 ·rename_i h1 h2
  rw[h1,h2];rfl
 ·rename_i h1
  rw[h1];rfl
theorem C7J(a b c d:Int):Pure Tryz.prog B94 [eP a b,eP c d] (.tup [.d (.int .i64 (T1 a b c d).1),.d (.bool (T1 a b c d).2)]):=by
 refine C8j.go A6 rfl ?_
 repeat' first|refine st ?_|refine⟨λ_=>?_,λ_=>?_⟩|fail
 refine J5 A6 D2f D0U (λ(i:Nat)=>[.d (eI i)]) (λi=>[.cells [.d (eI a),.d (eI b)],.cells [.d (eI c),.d (eI d)]]) (λi=>i<=13/\∀j:Nat,j<i->((T1 a b c d).2&&decide ((T1 a b c d).1=j))=false) (λi=>13-i) 0 rfl rfl rfl rfl (λ_ _=>⟨rfl,rfl⟩) rfl ⟨by omega,by omega⟩ ?_
 repeat' first|refine st ?_|refine⟨λ_=>?_,λ_=>?_⟩|fail
 intro i ⟨h1,h2⟩
 repeat' first|refine st ?_|((with_reducible first|apply E9|apply E8);(·exact C7H _ _ _ _ _))|refine⟨λ_=>?_,λ_=>?_⟩|fail
 ·rename_i h3 h4
  simp[h3,h4]
 ·rename_i h3 h4
  refine⟨i+1,rfl,rfl,rfl,by omega,by omega,λj hj=>?_⟩
  rcases Nat.lt_succ_iff_lt_or_eq.1 hj with h|rfl
  ·exact h2 j h
  ·rw[h3,decide_eq_false h4];rfl
 ·rename_i h3
  refine⟨i+1,rfl,rfl,rfl,by omega,by omega,λj hj=>?_⟩
  rw[h3];rfl
 ·have:(T1 a b c d).2=false:=by
   rw[A50]
   intro h
   have hr:=E1v a b c d
   have:=h2 (T1 a b c d).1.toNat (by omega)
   rw[h] at this
   simp at this
   omega
  rw[C4y] at this
  rw[E1u this]
theorem D8r{P:Program}{f n:Nat}{ic:IC}{rs:List RV}(h:B5 P f n ic rs):Bi.Enters P f:=by
 obtain⟨fn,h1,h2,h3,h4,h5⟩:=h
 obtain⟨code,hb,hc⟩:=i6.1 h4
 exact⟨fn,h1,by rw[hb];rfl,by simpa using h3⟩
set_option maxRecDepth 100000 in
theorem D7t(a b:ByteArray)(w:World) :
  Calls Tryz.prog 235 #[.string a,.string b] w λe w'=>e=.returned (.int .i64 (Lib.compareBytes a.data.toList b.data.toList))/\w'=w:=by
 go_enter Tryz.func235,Tryz.ntmps235
 go_wp2
 rw[run_callFunc_extern Tryz.func240 (by kernel_rfl) (by kernel_rfl) (by kernel_rfl) (e:=Extern.BytealgCompare.compare) (by kernel_rfl),Lib.run_compareString]
 simp only[Result.andThen]
 rw[Oper.upon_value]
 go_wp2
 go_ret
 exact⟨rfl,rfl⟩
abbrev t6(a b:List UInt8):Int:=Lib.compareBytes a b
theorem C64(a b:List UInt8):Pure Tryz.prog C0k [.d (.str a),.d (.str b)] (.d (eI (t6 a b))):=by
 refine⟨D8r C9V,λM G w vs he hl hv=>?_⟩
 have h1:vs=#[.string ⟨⟨a⟩⟩,.string ⟨⟨b⟩⟩]:=by
  match vs,hl with
  |⟨[x,y]⟩,_=>
   have e1:=A3r (M:=M) (G:=G) (os:=[]) (hv 0 _ x rfl rfl)
   have e2:=A3r (M:=M) (G:=G) (os:=[]) (hv 1 _ y rfl rfl)
   rw[e1,e2]
 subst h1
 refine(D7t ⟨⟨a⟩⟩ ⟨⟨b⟩⟩ w).mono ?_
 rintro e w' ⟨rfl,rfl⟩
 exact⟨_,rfl,M,G,_,[],he,F9.refl ..,Rd.int' ..,rfl,rfl⟩
theorem C7X(a b:List UInt8):Pure Tryz.prog C0B [.d (.str a),.d (.str b)] (.d (eI (t6 a b))):=by
 refine D09.go A6 rfl ?_
 repeat' first|refine st ?_|((with_reducible apply A4);conv=>whnf)|((with_reducible first|apply E9|apply E8);(·exact C64 _ _))|refine⟨λ_=>?_,λ_=>?_⟩|fail
def U6(a b:Int):Int:=if a<b then -1 else if b<a then 1 else 0
theorem C6h(a:Int):Pure Tryz.prog C04 [.d (eI a)] (.d (.bool false)):=by
 refine C9w.go A6 rfl ?_
 repeat' first|refine st ?_|((with_reducible apply A4);conv=>whnf)|refine⟨λ_=>?_,λ_=>?_⟩|fail
 all_goals simp
theorem C6f(a b:Int):Pure Tryz.prog C02 [.d (eI a),.d (eI b)] (.d (eI (U6 a b))):=by
 refine C9u.go A6 rfl ?_
 repeat' first|refine st ?_|((with_reducible apply A4);conv=>whnf)|((with_reducible first|apply E9|apply E8);(·exact C6h _))|refine⟨λ_=>?_,λ_=>?_⟩|fail
 ·rename_i h;rw[U6,if_pos h]
 ·rename_i h h2;rw[U6,if_neg h,if_pos h2]
 ·rename_i h h2;rw[U6,if_neg h,if_neg h2]
def or3(a b c:Int):Int:=if a≠0 then a else if b≠0 then b else c
theorem C6g(a b c:Int):Pure Tryz.prog C03 [.d (.sl [[eI a],[eI b],[eI c]])] (.d (eI (or3 a b c))):=by
 refine C9v.go A6 rfl ?_
 repeat' first|refine st ?_|((with_reducible apply A4);conv=>whnf)|refine⟨λ_=>?_,λ_=>?_⟩|fail
 refine J5 A6 D30 D1F (λ(i:Nat)=>[.d (eI i)]) (λi=>[]) (λi=>i<=3/\(0<i->a=0)/\(1<i->b=0)/\(2<i->c=0)) (λi=>3-i) 0 rfl rfl rfl rfl (λ_ _=>⟨rfl,rfl⟩) rfl ⟨by omega,by omega,by omega,by omega⟩ ?_
 repeat' first|refine st ?_|((with_reducible apply A4);conv=>whnf)|refine⟨λ_=>?_,λ_=>?_⟩|fail
 intro i ⟨h1,h2,h3,h4⟩
 have hl3:([[eI a],[eI b],[eI c]]:List (List D)).length=3:=rfl
 have hm:∀e∈([[eI a],[eI b],[eI c]]:List (List D)),e.length=1:=by intro e he;simp at he;rcases he with rfl|rfl|rfl<;>rfl
 rcases(show i=0\/i=1\/i=2\/i=3 by omega) with rfl|rfl|rfl|rfl
 ·have hg:([[eI a],[eI b],[eI c]]:List (List D))[((0:Nat):Int).toNat]?=some [eI a]:=rfl
  repeat' first|refine st ?_|((with_reducible apply A4);conv=>whnf)|refine⟨λ_=>?_,λ_=>?_⟩|fail
  rotate_left
  ·rename_i h;rw[or3,if_pos h]
  ·rename_i h;exact⟨1,rfl,rfl,rfl,by omega,by omega,by omega,by omega,by omega⟩
 ·have hg:([[eI a],[eI b],[eI c]]:List (List D))[((1:Nat):Int).toNat]?=some [eI b]:=rfl
  have e1:=h2 (by omega)
  repeat' first|refine st ?_|((with_reducible apply A4);conv=>whnf)|refine⟨λ_=>?_,λ_=>?_⟩|fail
  rotate_left
  ·rename_i h;rw[or3,if_neg (by omega),if_pos h]
  ·rename_i h;exact⟨2,rfl,rfl,rfl,by omega,by omega,by omega,by omega,by omega⟩
 ·have hg:([[eI a],[eI b],[eI c]]:List (List D))[((2:Nat):Int).toNat]?=some [eI c]:=rfl
  have e1:=h2 (by omega)
  have e2:=h3 (by omega)
  repeat' first|refine st ?_|((with_reducible apply A4);conv=>whnf)|refine⟨λ_=>?_,λ_=>?_⟩|fail
  rotate_left
  ·rename_i h;rw[or3,if_neg (by omega),if_neg (by omega)]
  ·rename_i h;exact⟨3,rfl,rfl,rfl,by omega,by omega,by omega,by omega,by omega⟩
 ·have e1:=h2 (by omega)
  have e2:=h3 (by omega)
  have e3:=h4 (by omega)
  repeat' first|refine st ?_|((with_reducible apply A4);conv=>whnf)|refine⟨λ_=>?_,λ_=>?_⟩|fail
  rw[or3,if_neg (by omega),if_neg (by omega),e3]
structure Vl where
 k:Int
 n:Int
 s:List UInt8
 deriving DecidableEq
abbrev Vl.ds(v:Vl):List D:=[eI v.k,eI v.n,.str v.s]
abbrev eV(v:Vl):AV:=.agg [.d (eI v.k),.d (eI v.n),.d (.str v.s)]
def C5:Vl:=⟨0,0,[]⟩
def prC(c:UInt8):Bool:=decide (32<=c.toNat/\c.toNat<=126)
def prB(s:List UInt8):Bool:=s.all prC
def N5(v:Vl):Bool:=
 if v.k=0 then decide (v.n=0/\v.s=[])
 else if v.k=1 then decide (v.s=[]/\-1125899906842624<=v.n/\v.n<=1125899906842624)
 else if v.k=2 then decide (v.n=0/\v.s.length<=200)&&prB v.s
 else if v.k=3 then decide (v.s=[]/\(v.n=0\/v.n=1)) else false
theorem C85(s:List UInt8)(hs:s.length<=4611686018427387904):Pure Tryz.prog C0T [.d (.str s)] (.d (.bool (prB s))):=by
 refine D0t.go A6 rfl ?_
 repeat' first|refine st ?_|((with_reducible apply A4);conv=>whnf)|refine⟨λ_=>?_,λ_=>?_⟩|fail
 refine J5 A6 D3t D28 (λ(i:Nat)=>[.d (eI i)]) (λi=>[]) (λi=>i<=s.length/\(s.take i).all prC=true) (λi=>s.length-i) 0 rfl rfl rfl rfl (λ_ _=>⟨rfl,rfl⟩) rfl ⟨by omega,rfl⟩ ?_
 repeat' first|refine st ?_|((with_reducible apply A4);conv=>whnf)|refine⟨λ_=>?_,λ_=>?_⟩|fail
 intro i ⟨h1,h2⟩
 cases hx:s[i]? with
 |some c=>
  have hlt:=(B3.1 hx).1
  have hg:s.getD ((i:Int)).toNat 0=c:=by simp[H6,hx]
  repeat' first|refine st ?_|((with_reducible apply A4);conv=>whnf)|refine⟨λ_=>?_,λ_=>?_⟩|fail
  ·rename_i h
   rw[hg] at h
   rw[prB,A3L hx (decide_eq_false (by omega))]
  ·rename_i h h'
   rw[hg] at h h'
   rw[prB,A3L hx (decide_eq_false (by omega))]
  ·rename_i h h'
   rw[hg] at h h'
   refine⟨i+1,rfl,rfl,rfl,by omega,by omega,?_⟩
   rw[A4w hx,h2,prC,decide_eq_true (by omega)];rfl
 |none=>
  have hge:=F2.1 hx
  rw[H0 hge] at h2
  repeat' first|refine st ?_|((with_reducible apply A4);conv=>whnf)|refine⟨λ_=>?_,λ_=>?_⟩|fail
  rw[prB,h2]
theorem C7y(s:List UInt8)(hs:s.length<=4611686018427387904):Pure Tryz.prog B9d [.d (.str s)] (.d (.bool (prB s))):=by
 refine C8u.go A6 rfl ?_
 repeat' first|refine st ?_|((with_reducible apply A4);conv=>whnf)|refine⟨λ_=>?_,λ_=>?_⟩|fail
 refine J5 A6 D2g D0V (λ(i:Nat)=>[.d (eI i)]) (λi=>[]) (λi=>i<=s.length/\(s.take i).all prC=true) (λi=>s.length-i) 0 rfl rfl rfl rfl (λ_ _=>⟨rfl,rfl⟩) rfl ⟨by omega,rfl⟩ ?_
 repeat' first|refine st ?_|((with_reducible apply A4);conv=>whnf)|refine⟨λ_=>?_,λ_=>?_⟩|fail
 intro i ⟨h1,h2⟩
 cases hx:s[i]? with
 |some c=>
  have hlt:=(B3.1 hx).1
  have hg:s.getD ((i:Int)).toNat 0=c:=by simp[H6,hx]
  repeat' first|refine st ?_|((with_reducible apply A4);conv=>whnf)|refine⟨λ_=>?_,λ_=>?_⟩|fail
  ·rename_i h
   rw[hg] at h
   rw[prB,A3L hx (decide_eq_false (by omega))]
  ·rename_i h h'
   rw[hg] at h h'
   rw[prB,A3L hx (decide_eq_false (by omega))]
  ·rename_i h h'
   rw[hg] at h h'
   refine⟨i+1,rfl,rfl,rfl,by omega,by omega,?_⟩
   rw[A4w hx,h2,prC,decide_eq_true (by omega)];rfl
 |none=>
  have hge:=F2.1 hx
  rw[H0 hge] at h2
  repeat' first|refine st ?_|((with_reducible apply A4);conv=>whnf)|refine⟨λ_=>?_,λ_=>?_⟩|fail
  rw[prB,h2]
theorem A8l(v:Vl)(hs:v.s.length<=4611686018427387904):Pure Tryz.prog B1P [eV v] (.d (.bool (N5 v))):=by
 refine D0o.go A6 rfl ?_
 have hP:=C85 v.s hs
 repeat' first|refine st ?_|((with_reducible apply A4);conv=>whnf)|refine⟨λ_=>?_,λ_=>?_⟩|fail
 all_goals (simp_all[N5]<;>omega)
theorem A6f(v:Vl)(hs:v.s.length<=4611686018427387904):Pure Tryz.prog B1h [eV v] (.d (.bool (N5 v))):=by
 refine C8x.go A6 rfl ?_
 have hP:=C7y v.s hs
 repeat' first|refine st ?_|((with_reducible apply A4);conv=>whnf)|refine⟨λ_=>?_,λ_=>?_⟩|fail
 all_goals (simp_all[N5]<;>omega)
theorem w6:Pure Tryz.prog C0K [] (eV C5):=by
 refine D0j.go A6 rfl ?_
 repeat' first|refine st ?_|((with_reducible apply A4);conv=>whnf)|refine⟨λ_=>?_,λ_=>?_⟩|fail
 all_goals rfl
theorem S2:Pure Tryz.prog A6p [] (eV C5):=by
 refine C8r.go A6 rfl ?_
 repeat' first|refine st ?_|((with_reducible apply A4);conv=>whnf)|refine⟨λ_=>?_,λ_=>?_⟩|fail
 all_goals rfl
def T4(b:Bool):Vl:=⟨3,if b then 1 else 0,[]⟩
theorem A3z(b:Bool):Pure Tryz.prog A2Z [.d (.bool b)] (eV (T4 b)):=by
 refine D0d.go A6 rfl ?_
 repeat' first|refine st ?_|((with_reducible apply A4);conv=>whnf)|refine⟨λ_=>?_,λ_=>?_⟩|fail
 all_goals simp_all[T4]
theorem A8h(b:Bool):Pure Tryz.prog A8C [.d (.bool b)] (eV (T4 b)):=by
 refine C8l.go A6 rfl ?_
 repeat' first|refine st ?_|((with_reducible apply A4);conv=>whnf)|refine⟨λ_=>?_,λ_=>?_⟩|fail
 all_goals simp_all[T4]
def Y5(v:Vl):Vl:=if N5 v then v else C5
theorem B4X(v:Vl)(hs:v.s.length<=4611686018427387904):Pure Tryz.prog C0S [eV v] (eV (Y5 v)):=by
 refine D0s.go A6 rfl ?_
 have hV:=A8l v hs
 repeat' first|refine st ?_|((with_reducible apply A4);conv=>whnf)|((with_reducible first|apply E9|apply E8);(·exact w6))|refine⟨λ_=>?_,λ_=>?_⟩|fail
 all_goals simp_all[Y5]
theorem B4N(v:Vl)(hs:v.s.length<=4611686018427387904):Pure Tryz.prog B9i [eV v] (eV (Y5 v)):=by
 refine C8A.go A6 rfl ?_
 have hV:=A6f v hs
 repeat' first|refine st ?_|((with_reducible apply A4);conv=>whnf)|((with_reducible first|apply E9|apply E8);(·exact S2))|refine⟨λ_=>?_,λ_=>?_⟩|fail
 all_goals simp_all[Y5]
def Y4(n:Int):Vl:=Y5 ⟨1,n,[]⟩
def A67(s:List UInt8):Vl:=Y5 ⟨2,0,s⟩
theorem A2U(n:Int):Pure Tryz.prog C0H [.d (eI n)] (eV (Y4 n)):=by
 refine D0g.go A6 rfl ?_
 have hV:=B4X ⟨1,n,[]⟩ (by simp)
 repeat' first|refine st ?_|((with_reducible apply A4);conv=>whnf)|refine⟨λ_=>?_,λ_=>?_⟩|fail
 all_goals rfl
theorem A0C(n:Int):Pure Tryz.prog B98 [.d (eI n)] (eV (Y4 n)):=by
 refine C8o.go A6 rfl ?_
 have hV:=B4N ⟨1,n,[]⟩ (by simp)
 repeat' first|refine st ?_|((with_reducible apply A4);conv=>whnf)|refine⟨λ_=>?_,λ_=>?_⟩|fail
 all_goals rfl
theorem C84(s:List UInt8)(hs:s.length<=4611686018427387904):Pure Tryz.prog C0N [.d (.str s)] (eV (A67 s)):=by
 refine D0m.go A6 rfl ?_
 have hV:=B4X ⟨2,0,s⟩ hs
 repeat' first|refine st ?_|((with_reducible apply A4);conv=>whnf)|refine⟨λ_=>?_,λ_=>?_⟩|fail
 all_goals rfl
theorem C7z(s:List UInt8)(hs:s.length<=4611686018427387904):Pure Tryz.prog B9e [.d (.str s)] (eV (A67 s)):=by
 refine C8v.go A6 rfl ?_
 have hV:=B4N ⟨2,0,s⟩ hs
 repeat' first|refine st ?_|((with_reducible apply A4);conv=>whnf)|refine⟨λ_=>?_,λ_=>?_⟩|fail
 all_goals rfl
end Go.Proofs
end
section
namespace Go.Proofs
open Go.Bi
attribute [local irreducible] Go.Utf8.decode
end Go.Proofs
end
section
namespace Go.Proofs
open Go.Bi
theorem A1P{a b:Int}:U6 a b=0↔a=b:=by unfold U6;split<;>(try split)<;>omega
theorem B28:∀(a b:List UInt8),Op.bytesLess a b=decide (t6 a b<0)/\Op.bytesLess b a=decide (0<t6 a b)/\(t6 a b=0↔a=b)/\(t6 a b=-1\/t6 a b=0\/t6 a b=1)
 |[],[]=>by simp[Op.bytesLess,t6,Lib.compareBytes]
 |[],_::_=>by simp[Op.bytesLess,t6,Lib.compareBytes]
 |_::_,[]=>by simp[Op.bytesLess,t6,Lib.compareBytes]
 |x::a,y::b=>by
  obtain⟨h1,h2,h3,h4⟩:=B28 a b
  simp only[Op.bytesLess,t6,Lib.compareBytes] at *
  by_cases hxy:x<y
  ·have h5:¬y<x:=by intro h;exact absurd (UInt8.lt_trans hxy h) (UInt8.lt_irrefl x)
   have h6:x≠y:=by intro h;rw[h] at hxy;exact UInt8.lt_irrefl y hxy
   simp[hxy,h5,h6,Ne.symm h6]
  ·by_cases hyx:y<x
   ·have h6:x≠y:=by intro h;rw[h] at hyx;exact UInt8.lt_irrefl y hyx
    simp[hxy,hyx,h6,Ne.symm h6]
   ·have h6:x=y:=UInt8.le_antisymm (UInt8.not_lt.1 hyx) (UInt8.not_lt.1 hxy)
    subst h6
    simp only[UInt8.lt_irrefl,decide_false,Bool.false_or,beq_self_eq_true,R2,if_false,h1,h2,List.cons.injEq,true_and]
    exact⟨h3,h4⟩
def b6(a b:Vl):Int:=or3 (U6 a.k b.k) (U6 a.n b.n) (t6 a.s b.s)
theorem B4U(a b:Vl):Pure Tryz.prog C0F [eV a,eV b] (.d (eI (b6 a b))):=by
 refine D0e.go A6 rfl ?_
 repeat' first|refine st ?_|((with_reducible apply A4);conv=>whnf)|((with_reducible first|apply E9|apply E8);(·first|exact C6f _ _|exact C7X _ _|exact C6g _ _ _))|refine⟨λ_=>?_,λ_=>?_⟩|fail
 all_goals rfl
def sgn(l g:Bool):Int:=if l then -1 else if g then 1 else 0
theorem C7A(l g:Bool):Pure Tryz.prog B9g [.d (.bool l),.d (.bool g)] (.d (eI (sgn l g))):=by
 refine C8y.go A6 rfl ?_
 repeat' first|refine st ?_|((with_reducible apply A4);conv=>whnf)|refine⟨λ_=>?_,λ_=>?_⟩|fail
 all_goals simp_all[sgn]
theorem A8i(a b:Vl):Pure Tryz.prog B96 [eV a,eV b] (.d (eI (b6 a b))):=by
 refine C8m.go A6 rfl ?_
 repeat' first|refine st ?_|((with_reducible apply A4);conv=>whnf)|((with_reducible first|apply E9|apply E8);(·exact C7A _ _))|refine⟨λ_=>?_,λ_=>?_⟩|fail
 ·rename_i h1 h2
  have e1:=A1P.2 h1
  have e2:=A1P.2 h2
  obtain⟨h3,h4,h5,h6⟩:=B28 a.s b.s
  rw[b6,or3,e1,e2]
  simp only[h3,h4,sgn,decide_eq_true_eq]
  congr 2
  rcases h6 with h|h|h
  ·rw[h];rfl
  ·rw[h,decide_eq_true (h5.1 h)];rfl
  ·have hne:decide (a.s=b.s)=false:=decide_eq_false (λe=>by rw[h5.2 e] at h;cases h)
   rw[h,hne];rfl
 ·rename_i h1 h2
  have e1:=A1P.2 h1
  rw[b6,or3,e1,if_neg (by simp),if_pos (λe=>h2 (A1P.1 e)),sgn,U6]
  simp
 ·rename_i h1
  rw[b6,or3,if_pos (λe=>h1 (A1P.1 e)),sgn,U6]
  simp
def A63(a b:Vl)(is:Bool):Int:=if a.k=0\/a.k≠b.k then 1 else if is then 2 else 0
theorem B4V(a b:Vl)(is:Bool):Pure Tryz.prog C0P [eV a,eV b,.d (.bool is)] (.d (eI (A63 a b is))):=by
 refine D0p.go A6 rfl ?_
 repeat' first|refine st ?_|((with_reducible apply A4);conv=>whnf)|refine⟨λ_=>?_,λ_=>?_⟩|fail
 all_goals simp_all[A63]
theorem B4M(a b:Vl)(is:Bool):Pure Tryz.prog B9h [eV a,eV b,.d (.bool is)] (.d (eI (A63 a b is))):=by
 refine C8z.go A6 rfl ?_
 repeat' first|refine st ?_|((with_reducible apply A4);conv=>whnf)|refine⟨λ_=>?_,λ_=>?_⟩|fail
 all_goals simp_all[A63]
def vEq(a b:Vl):Int:=A63 a b (decide (b6 a b=0))
def A64(a b:Vl):Int:=A63 a b (decide (b6 a b<0))
theorem C81(a b:Vl):Pure Tryz.prog C0G [eV a,eV b] (.d (eI (vEq a b))):=by
 refine D0f.go A6 rfl ?_
 repeat' first|refine st ?_|((with_reducible apply A4);conv=>whnf)|((with_reducible first|apply E9|apply E8);(·first|exact B4U _ _|exact B4V _ _ _))|refine⟨λ_=>?_,λ_=>?_⟩|fail
 all_goals rfl
theorem C7v(a b:Vl):Pure Tryz.prog B97 [eV a,eV b] (.d (eI (vEq a b))):=by
 refine C8n.go A6 rfl ?_
 repeat' first|refine st ?_|((with_reducible apply A4);conv=>whnf)|((with_reducible first|apply E9|apply E8);(·first|exact A8i _ _|exact B4M _ _ _))|refine⟨λ_=>?_,λ_=>?_⟩|fail
 all_goals rfl
theorem C82(a b:Vl):Pure Tryz.prog C0I [eV a,eV b] (.d (eI (A64 a b))):=by
 refine D0h.go A6 rfl ?_
 repeat' first|refine st ?_|((with_reducible apply A4);conv=>whnf)|((with_reducible first|apply E9|apply E8);(·first|exact B4U _ _|exact B4V _ _ _))|refine⟨λ_=>?_,λ_=>?_⟩|fail
 all_goals rfl
theorem C7w(a b:Vl):Pure Tryz.prog B99 [eV a,eV b] (.d (eI (A64 a b))):=by
 refine C8p.go A6 rfl ?_
 repeat' first|refine st ?_|((with_reducible apply A4);conv=>whnf)|((with_reducible first|apply E9|apply E8);(·first|exact A8i _ _|exact B4M _ _ _))|refine⟨λ_=>?_,λ_=>?_⟩|fail
 all_goals rfl
def A0A(t:Int):Int:=if t=0\/t=2 then t else 1
theorem E2c(t:Int):A0A t=0\/A0A t=1\/A0A t=2:=by unfold A0A;split<;>omega
theorem A8m(t:Int):Pure Tryz.prog C0R [.d (eI t)] (.d (eI (A0A t))):=by
 refine D0r.go A6 rfl ?_
 repeat' first|refine st ?_|((with_reducible apply A4);conv=>whnf)|refine⟨λ_=>?_,λ_=>?_⟩|fail
 all_goals simp_all[A0A]
def A02(t:Int):Int:=2-A0A t
theorem B0P(t:Int):Pure Tryz.prog C0J [.d (eI t)] (.d (eI (A02 t))):=by
 refine D0i.go A6 rfl ?_
 have:=E2c t
 repeat' first|refine st ?_|((with_reducible apply A4);conv=>whnf)|((with_reducible first|apply E9|apply E8);(·exact A8m _))|refine⟨λ_=>?_,λ_=>?_⟩|fail
 all_goals rfl
theorem B4L(t:Int):Pure Tryz.prog B9a [.d (eI t)] (.d (eI (A02 t))):=by
 refine C8q.go A6 rfl ?_
 repeat' first|refine st ?_|((with_reducible apply A4);conv=>whnf)|refine⟨λ_=>?_,λ_=>?_⟩|fail
 all_goals simp_all[A02,A0A]
def A4i(a b:Int):Int:=min (min 2 (A0A a)) (A0A b)
def tOr(a b:Int):Int:=A02 (A4i (A02 a) (A02 b))
theorem B4W(a b:Int):Pure Tryz.prog C0Q [.d (.sl [[eI a],[eI b]])] (.d (eI (A4i a b))):=by
 refine D0q.go A6 rfl ?_
 repeat' first|refine st ?_|((with_reducible apply A4);conv=>whnf)|refine⟨λ_=>?_,λ_=>?_⟩|fail
 refine M5 A6 D3s D27 (λ(i:Nat) (t:Int)=>[.d (eI t),.d (eI i)]) (λi t=>[]) (λi t=>(i=0/\t=2)\/(i=1/\t=min 2 (A0A a))\/(i=2/\t=A4i a b)) (λi _=>2-i) 0 2 rfl rfl rfl rfl (λ_ _ _=>⟨rfl,rfl⟩) rfl (.inl ⟨rfl,rfl⟩) ?_
 repeat' first|refine st ?_|((with_reducible apply A4);conv=>whnf)|refine⟨λ_=>?_,λ_=>?_⟩|fail
 intro i t h1
 have hl3:([[eI a],[eI b]]:List (List D)).length=2:=rfl
 have hm:∀e∈([[eI a],[eI b]]:List (List D)),e.length=1:=by intro e he;simp at he;rcases he with rfl|rfl<;>rfl
 rcases h1 with ⟨rfl,rfl⟩|⟨rfl,rfl⟩|⟨rfl,rfl⟩
 ·have hg:([[eI a],[eI b]]:List (List D))[((0:Nat):Int).toNat]?=some [eI a]:=rfl
  repeat' first|refine st ?_|((with_reducible apply A4);conv=>whnf)|((with_reducible first|apply E9|apply E8);(·exact A8m _))|refine⟨λ_=>?_,λ_=>?_⟩|fail
  exact⟨1,_,rfl,rfl,rfl,by omega,.inr (.inl ⟨rfl,rfl⟩)⟩
 ·have hg:([[eI a],[eI b]]:List (List D))[((1:Nat):Int).toNat]?=some [eI b]:=rfl
  repeat' first|refine st ?_|((with_reducible apply A4);conv=>whnf)|((with_reducible first|apply E9|apply E8);(·exact A8m _))|refine⟨λ_=>?_,λ_=>?_⟩|fail
  exact⟨2,_,rfl,rfl,rfl,by omega,.inr (.inr ⟨rfl,rfl⟩)⟩
 ·repeat' first|refine st ?_|((with_reducible apply A4);conv=>whnf)|refine⟨λ_=>?_,λ_=>?_⟩|fail
theorem C80(a b:Int):Pure Tryz.prog C0E [.d (eI a),.d (eI b)] (.d (eI (A4i a b))):=by
 refine D0c.go A6 rfl ?_
 repeat' first|refine st ?_|((with_reducible apply A4);conv=>whnf)|((with_reducible first|apply E9|apply E8);(·exact B4W _ _))|refine⟨λ_=>?_,λ_=>?_⟩|fail
theorem C83(a b:Int):Pure Tryz.prog C0M [.d (eI a),.d (eI b)] (.d (eI (tOr a b))):=by
 refine D0l.go A6 rfl ?_
 repeat' first|refine st ?_|((with_reducible apply A4);conv=>whnf)|((with_reducible first|apply E9|apply E8);(·first|exact B0P _|exact B4W _ _))|refine⟨λ_=>?_,λ_=>?_⟩|fail
 all_goals rfl
theorem C7u(a b:Int):Pure Tryz.prog B95 [.d (eI a),.d (eI b)] (.d (eI (A4i a b))):=by
 refine C8k.go A6 rfl ?_
 repeat' first|refine st ?_|((with_reducible apply A4);conv=>whnf)|refine⟨λ_=>?_,λ_=>?_⟩|fail
 all_goals (simp only[A4i,A0A,AV.d.injEq,D.int.injEq,true_and];split<;>split<;>omega)
theorem C7x(a b:Int):Pure Tryz.prog B9c [.d (eI a),.d (eI b)] (.d (eI (tOr a b))):=by
 refine C8t.go A6 rfl ?_
 have key:∀x y:Int,tOr x y=if x=2\/y=2 then 2 else if x=0/\y=0 then 0 else 1:=by
  intro x y
  by_cases x0:x=0<;>by_cases x2:x=2<;>by_cases y0:y=0<;>by_cases y2:y=2<;>simp[tOr,A4i,A02,A0A,x0,x2,y0,y2]<;>omega
 rw[key]
 repeat' first|refine st ?_|((with_reducible apply A4);conv=>whnf)|refine⟨λ_=>?_,λ_=>?_⟩|fail
 all_goals (simp only[AV.d.injEq,D.int.injEq,true_and];(repeat' split)<;>omega)
def L8(v:Vl):Int:=if v=T4 true then 2 else if v=T4 false then 0 else 1
theorem A86{v w:Vl}:v=w↔(v.k=w.k/\v.n=w.n/\v.s=w.s):=by cases v;cases w;simp
theorem C5p(v:Vl):L8 v=if v.k=3/\v.n=1/\v.s=[] then 2 else if v.k=3/\v.n=0/\v.s=[] then 0 else 1:=by
 simp only[L8,A86,T4,if_true,N6,if_false]
theorem A3A(v:Vl):Pure Tryz.prog C0O [eV v] (.d (eI (L8 v))):=by
 refine D0n.go A6 rfl ?_
 rw[C5p]
 repeat' first|refine st ?_|((with_reducible apply A4);conv=>whnf)|((with_reducible first|apply E9|apply E8);(·exact A3z _))|refine⟨λ_=>?_,λ_=>?_⟩|fail
 all_goals (simp_all[T4])
theorem A4p(v:Vl):Pure Tryz.prog B9f [eV v] (.d (eI (L8 v))):=by
 refine C8w.go A6 rfl ?_
 rw[C5p]
 repeat' first|refine st ?_|((with_reducible apply A4);conv=>whnf)|((with_reducible first|apply E9|apply E8);(·exact A8h _))|refine⟨λ_=>?_,λ_=>?_⟩|fail
 all_goals (simp_all[T4])
def O9(t:Int):Vl:=if t=2 then T4 true else if t=0 then T4 false else C5
theorem A8k(t:Int):Pure Tryz.prog C0L [.d (eI t)] (eV (O9 t)):=by
 refine D0k.go A6 rfl ?_
 repeat' first|refine st ?_|((with_reducible apply A4);conv=>whnf)|((with_reducible first|apply E9|apply E8);(·first|exact A8m _|exact w6|exact A3z _))|refine⟨λ_=>?_,λ_=>?_⟩|fail
 all_goals (by_cases h0:t=0<;>by_cases h2:t=2<;>simp_all[A0A,O9,C5,T4])
theorem B0N(t:Int):Pure Tryz.prog B9b [.d (eI t)] (eV (O9 t)):=by
 refine C8s.go A6 rfl ?_
 repeat' first|refine st ?_|((with_reducible apply A4);conv=>whnf)|((with_reducible first|apply E9|apply E8);(·first|exact S2|exact A8h _))|refine⟨λ_=>?_,λ_=>?_⟩|fail
 all_goals simp_all[O9,C5,T4]
def B2(l:List Vl):List (List D):=l.map Vl.ds
theorem Q2(l:List Vl):(B2 l).length=l.length:=by simp[B2]
theorem m6{l:List Vl}{i:Nat}{v:Vl}(h:l[i]?=some v):(B2 l)[i]?=some v.ds:=by simp[B2,h]
theorem Q3(l:List Vl):∀e∈B2 l,e.length=3:=by
 intro e he
 obtain⟨x,_,rfl⟩:=D9.1 he
 rfl
def O3(l:List Vl)(i:Int):Vl:=if i<0\/(l.length:Int)<=i then C5 else l.getD i.toNat C5
theorem B3L{l:List Vl}{i:Int}(h:¬i<0)(h2:¬(l.length:Int)<=i):l[i.toNat]?=some (O3 l i):=by
 rw[O3,if_neg (by omega),H6,F1 (by omega)];rfl
theorem B4O(l:List Vl)(hl:l.length<=4611686018427387904)(d:D)(hd:B0 d (B2 l))(i:Int):Pure Tryz.prog B9j [.d d,.d (eI i)] (eV (O3 l i)):=by
 refine C8B.go A6 rfl ?_
 have h1:=Q2 l
 have hm:=Q3 l
 by_cases hi:i<0
 ·have e:O3 l i=C5:=if_pos (.inl hi)
  rw[e]
  repeat' first|refine st ?_|((with_reducible apply A4);conv=>whnf)|((with_reducible first|apply E9|apply E8);(·exact S2))|refine⟨λ_=>?_,λ_=>?_⟩|fail
 ·by_cases hi2:(l.length:Int)<=i
  ·have e:O3 l i=C5:=if_pos (.inr hi2)
   rw[e]
   repeat' first|refine st ?_|((with_reducible apply A4);conv=>whnf)|((with_reducible first|apply E9|apply E8);(·exact S2))|refine⟨λ_=>?_,λ_=>?_⟩|fail
  ·have hg:=m6 (B3L hi hi2)
   repeat' first|refine st ?_|((with_reducible apply A4);conv=>whnf)|refine⟨λ_=>?_,λ_=>?_⟩|fail
theorem B4T(l:List Vl)(hl:l.length<=4611686018427387904)(d:D)(hd:B0 d (B2 l))(i:Int):Pure Tryz.prog C0D [.d d,.d (eI i)] (eV (O3 l i)):=by
 refine D0b.go A6 rfl ?_
 have h1:=Q2 l
 have hm:=Q3 l
 by_cases hi:i<0
 ·have e:O3 l i=C5:=if_pos (.inl hi)
  rw[e]
  repeat' first|refine st ?_|((with_reducible apply A4);conv=>whnf)|((with_reducible first|apply E9|apply E8);(·exact w6))|refine⟨λ_=>?_,λ_=>?_⟩|fail
 ·by_cases hi2:(l.length:Int)<=i
  ·have e:O3 l i=C5:=if_pos (.inr hi2)
   rw[e]
   repeat' first|refine st ?_|((with_reducible apply A4);conv=>whnf)|((with_reducible first|apply E9|apply E8);(·exact w6))|refine⟨λ_=>?_,λ_=>?_⟩|fail
  ·have hg:=m6 (B3L hi hi2)
   repeat' first|refine st ?_|((with_reducible apply A4);conv=>whnf)|refine⟨λ_=>?_,λ_=>?_⟩|fail
theorem C7Z(l:List Vl)(hl:l.length<=4611686018427387904)(d:D)(hd:B0 d (B2 l))(i:Int):Pure Tryz.prog B1O [.d d,.d (.sl [[eI i]])] (.d (.sl [(O3 l i).ds])):=by
 refine B5r.go A6 rfl ?_
 have hA:=B4T l hl d hd i
 repeat' first|refine st ?_|((with_reducible apply A4);conv=>whnf)|refine⟨λ_=>?_,λ_=>?_⟩|fail
 refine M5 A6 B8L B8F (λ(i:Nat) (es:List (List D))=>[.arr 0 es.length,.d (eI i)]) (λi es=>[.arr es 3 0 false]) (λk es=>(k=0/\es=[])\/(k=1/\es=[(O3 l i).ds])) (λi _=>1-i) 0 [] rfl rfl rfl rfl (λ_ _ _=>⟨rfl,rfl⟩) rfl (.inl ⟨rfl,rfl⟩) ?_
 repeat' first|refine st ?_|((with_reducible apply A4);conv=>whnf)|refine⟨λ_=>?_,λ_=>?_⟩|fail
 intro k es h1
 have hl3:([[eI i]]:List (List D)).length=1:=rfl
 have hm:∀e∈([[eI i]]:List (List D)),e.length=1:=by intro e he;simp at he;rcases he with rfl;rfl
 rcases h1 with ⟨rfl,rfl⟩|⟨rfl,rfl⟩
 ·have hg:([[eI i]]:List (List D))[((0:Nat):Int).toNat]?=some [eI i]:=rfl
  repeat' first|refine st ?_|((with_reducible apply A4);conv=>whnf)|refine⟨λ_=>?_,λ_=>?_⟩|fail
  exact⟨1,_,rfl,rfl,rfl,by omega,.inr ⟨rfl,rfl⟩⟩
 ·repeat' first|refine st ?_|((with_reducible apply A4);conv=>whnf)|refine⟨λ_=>?_,λ_=>?_⟩|fail
  rfl
structure Co where
 nm:List UInt8
 k:Int
 nl:Bool
abbrev Co.ds(c:Co):List D:=[.str c.nm,eI c.k,.bool c.nl]
def kd(l:List Co):List Int:=l.map Co.k
def Kt(l:List Co)(i:Nat):List (List D):=A5 (kd (l.take i))
def acF:List Vl->List Co->Int
 |v::r,c::l=>if N5 v=false then 8 else if v.k=0 then (if c.nl then acF r l else 12) else if v.k=c.k then acF r l else 7
 |_,_=>0
def I9(row:List Vl)(U8:List Co):Int:=if row.length=U8.length then acF row U8 else 13
def pick(row:List Vl)(ks:List Int):List Vl:=ks.map (O3 row)
def Pt(row:List Vl)(ks:List Int)(i:Nat):List (List D):=B2 (pick row (ks.take i))
theorem C0W(row:List Vl)(ks:List Int)(i:Nat)(h:i<=ks.length):(Pt row ks i).length=i:=by
 unfold Pt pick
 rw[Q2,D3,L6]
 omega
theorem C0X{row:List Vl}{ks:List Int}{i:Nat}{k:Int}(h:ks[i]?=some k):Pt row ks i++[(O3 row k).ds]=Pt row ks (i+1):=by
 unfold Pt pick
 rw[L5,h]
 simp[B2]
theorem C0V{row:List Vl}{ks:List Int}{i:Nat}(h:ks.length<=i):Pt row ks i=B2 (pick row ks):=by
 unfold Pt
 rw[H0 h]
theorem E31(row:List Vl)(hr:row.length<=1073741824)(dr:D)(hdr:B0 dr (B2 row))(ks:List Int)(hk:ks.length<=1073741824)(dk:D)(hdk:B0 dk (A5 ks)):Pure Tryz.prog B1O [.d dr,.d dk] (.d (.sl (B2 (pick row ks)))):=by
 refine B5r.go A6 rfl ?_
 have h1:=G4 ks
 have hm:=I0 ks
 have hb:0<=((A5 ks).length:Int)/\((A5 ks).length:Int)*32<=140737488355328/\((A5 ks).length:Int)<=9223372036854775807:=by omega
 repeat' first|refine st ?_|refine⟨λ_=>?_,λ_=>?_⟩|fail
 refine M5 A6 B8L B8F (λ(i:Nat) (A:List (List D))=>[.arr 0 A.length,.d (eI i)]) (λi A=>[.arr A 3 0 false]) (λi A=>i<=ks.length/\A=Pt row ks i) (λi _=>ks.length-i) 0 [] rfl rfl rfl rfl (λ_ _ _=>⟨rfl,rfl⟩) rfl ⟨by omega,rfl⟩ ?_
 repeat' first|refine st ?_|refine⟨λ_=>?_,λ_=>?_⟩|fail
 intro i A ⟨h4,h5⟩
 have hAl:A.length=i:=by rw[h5];exact C0W row ks i (by omega)
 have hAm:∀e∈A,e.length=3:=by rw[h5];exact Q3 _
 cases hx:ks[i]? with
 |some k=>
  have hlt:=(B3.1 hx).1
  have hs:=C0X (row:=row) hx
  have hg:=Q1 hx
  have hA:=B4T row (by omega) dr hdr k
  rw[<- h5] at hs
  obtain⟨v,hv⟩:∃v,v=O3 row k:=⟨_,rfl⟩
  rw[<- hv] at hA hs
  repeat' first|refine st ?_|refine⟨λ_=>?_,λ_=>?_⟩|fail
  exact⟨i+1,A++[v.ds],rfl,rfl,rfl,by omega,by omega,hs⟩
 |none=>
  have hge:=F2.1 hx
  rw[C0V hge] at h5
  rw[<- h5]
  repeat' first|refine st ?_|refine⟨λ_=>?_,λ_=>?_⟩|fail
  all_goals rfl
theorem C7E(row:List Vl)(hr:row.length<=1073741824)(dr:D)(hdr:B0 dr (B2 row))(ks:List Int)(hk:ks.length<=1073741824)(dk:D)(hdk:B0 dk (A5 ks)):Pure Tryz.prog B9p [.d dr,.d dk] (.d (.sl (B2 (pick row ks)))):=by
 refine C8I.go A6 rfl ?_
 have h1:=G4 ks
 have hm:=I0 ks
 repeat' first|refine st ?_|refine⟨λ_=>?_,λ_=>?_⟩|fail
 refine M5 A6 D2m D11 (λ(i:Nat) (A:List (List D))=>[.arr 0 A.length,.d (eI i)]) (λi A=>[.arr A 3 0 false]) (λi A=>i<=ks.length/\A=Pt row ks i) (λi _=>ks.length-i) 0 [] rfl rfl rfl rfl (λ_ _ _=>⟨rfl,rfl⟩) rfl ⟨by omega,rfl⟩ ?_
 repeat' first|refine st ?_|refine⟨λ_=>?_,λ_=>?_⟩|fail
 intro i A ⟨h4,h5⟩
 have hAl:A.length=i:=by rw[h5];exact C0W row ks i (by omega)
 have hAm:∀e∈A,e.length=3:=by rw[h5];exact Q3 _
 cases hx:ks[i]? with
 |some k=>
  have hlt:=(B3.1 hx).1
  have hs:=C0X (row:=row) hx
  have hg:=Q1 hx
  have hA:=B4O row (by omega) dr hdr k
  rw[<- h5] at hs
  obtain⟨v,hv⟩:∃v,v=O3 row k:=⟨_,rfl⟩
  rw[<- hv] at hA hs
  repeat' first|refine st ?_|refine⟨λ_=>?_,λ_=>?_⟩|fail
  exact⟨i+1,A++[v.ds],rfl,rfl,rfl,by omega,by omega,hs⟩
 |none=>
  have hge:=F2.1 hx
  rw[C0V hge] at h5
  rw[<- h5]
  repeat' first|refine st ?_|refine⟨λ_=>?_,λ_=>?_⟩|fail
  all_goals rfl
theorem B0L(ks:List Int)(hk:ks.length<=1073741824)(d d':D)(hd:B0 d (A5 ks))(hd':B0 d' (A5 ks)):Pure Tryz.prog A8F [.d d,.d d'] (.d (.bool true)):=by
 refine C95.go A6 rfl ?_
 have h1:=G4 ks
 have hm:=I0 ks
 repeat' first|refine st ?_|refine⟨λ_=>?_,λ_=>?_⟩|fail
 refine J5 A6 D2y D1d (λ(i:Nat)=>[.d (eI i)]) (λi=>[]) (λi=>i<=ks.length) (λi=>ks.length-i) 0 rfl rfl rfl rfl (λ_ _=>⟨rfl,rfl⟩) rfl (K1 _) ?_
 repeat' first|refine st ?_|refine⟨λ_=>?_,λ_=>?_⟩|fail
 intro i h4
 cases hx:ks[i]? with
 |some k=>
  have hlt:=(B3.1 hx).1
  have hg:=Q1 hx
  repeat' first|refine st ?_|refine⟨λ_=>?_,λ_=>?_⟩|fail
  exact⟨i+1,rfl,rfl,rfl,by omega,by omega⟩
 |none=>
  have hge:=F2.1 hx
  repeat' first|refine st ?_|refine⟨λ_=>?_,λ_=>?_⟩|fail
  all_goals rfl
end Go.Proofs
end
section
namespace Go.Proofs
open Go.Bi
inductive Ex where
 |mk (op n:Int) (v:Vl) (name:List UInt8) (nl:Bool) (args:List Ex)
theorem Ex.ind{p:Ex->Prop}(h:∀op n v name nl args,(∀a∈args,p a)->p (.mk op n v name nl args)):∀e,p e
 |.mk op n v name nl args=>h _ _ _ _ _ _ λa ha=>Ex.ind h a
termination_by e=>SizeOf.sizeOf e
decreasing_by
 have:=List.sizeOf_lt_of_mem ha
 simp only[Ex.mk.sizeOf_spec]
 omega
def ng(nl:Bool)(l:List (List D)):D:=if nl&&l.isEmpty then .nil else .sl l
theorem C7{nl:Bool}{l:List (List D)}:B0 (ng nl l) l:=by
 unfold ng
 split
 ·rename_i h
  simp only[J9,A0G] at h
  exact .inl ⟨rfl,h.2⟩
 ·exact .inr rfl
abbrev U3(op n:Int)(v:Vl)(name:List UInt8)(d:D):List D:=[eI op,eI n,eI v.k,eI v.n,.str v.s,.str name,d]
abbrev eX(op n:Int)(v:Vl)(name:List UInt8)(d:D):AV:=.agg [.d (eI op),.d (eI n),.d (eI v.k),.d (eI v.n),.d (.str v.s),.d (.str name),.d d]
mutual
def Ex.ds:Ex->List D
 |.mk op n v name nl args=>U3 op n v name (ng nl (Ex.dss args))
def Ex.dss:List Ex->List (List D)
 |[]=>[]
 |e::es=>e.ds::Ex.dss es
end
theorem Ex.dss_eq:∀l,Ex.dss l=l.map Ex.ds
 |[]=>by simp[Ex.dss]
 |e::es=>by simp[Ex.dss,Ex.dss_eq es]
def xL(l:List Ex):List (List D):=l.map Ex.ds
theorem Ex.ds_mk(op n:Int)(v:Vl)(name:List UInt8)(nl:Bool)(args:List Ex):(Ex.mk op n v name nl args).ds=U3 op n v name (ng nl (xL args)):=by
 rw[Ex.ds,Ex.dss_eq];rfl
def Ex.av(e:Ex):AV:=.agg (e.ds.map .d)
theorem Ex.av_mk(op n:Int)(v:Vl)(name:List UInt8)(nl:Bool)(args:List Ex):(Ex.mk op n v name nl args).av=eX op n v name (ng nl (xL args)):=by
 rw[Ex.av,Ex.ds_mk];rfl
theorem N1(l:List Ex):(xL l).length=l.length:=by simp[xL]
theorem O6(l:List Ex):∀e∈xL l,e.length=7:=by
 intro e he
 obtain⟨⟨op,n,v,name,nl,args⟩,_,rfl⟩:=D9.1 he
 rw[Ex.ds_mk];rfl
theorem b9{l:List Ex}{i:Nat}{e:Ex}(h:l[i]?=some e):(xL l)[i]?=some e.ds:=by simp[xL,h]
def Ex.bk(e:Ex):Nat:=J6 e.ds
theorem A3N{l:List (List D)}{x:List D}(h:x∈l):J6 x<=D5 l:=by
 induction l with
 |nil=>cases h
 |cons y l ih=>
  simp only[D5]
  rcases I2.1 h with rfl|h
  ·omega
  ·have:=ih h;omega
theorem A4z{l:List (List D)}(h:∀x∈l,1<=J6 x):l.length<=D5 l:=by
 induction l with
 |nil=>exact K1 _
 |cons y l ih=>
  have h1:=h y (by simp)
  have h2:=ih λx hx=>h x (by simp[hx])
  simp only[D5,H7]
  omega
theorem Ex.bk_mk(op n:Int)(v:Vl)(name:List UInt8)(nl:Bool)(args:List Ex):D5 (xL args)+v.s.length+name.length+6<=(Ex.mk op n v name nl args).bk:=by
 rw[Ex.bk,Ex.ds_mk]
 simp only[J6,T6]
 unfold ng
 split
 ·rename_i h
  simp only[J9,A0G] at h
  rw[h.2]
  simp only[T6,D5]
  omega
 ·simp only[T6];omega
theorem Ex.bk_pos(e:Ex):6<=e.bk:=by
 obtain⟨op,n,v,name,nl,args⟩:=e
 have:=Ex.bk_mk op n v name nl args
 omega
theorem C5M(l:List Ex):l.length<=D5 (xL l):=by
 rw[<- N1 l]
 refine A4z λx hx=>?_
 obtain⟨e,_,rfl⟩:=D9.1 hx
 have:=e.bk_pos
 unfold Ex.bk at this
 omega
theorem Ex.bk_arg{op n:Int}{v:Vl}{name:List UInt8}{nl:Bool}{args:List Ex}{a:Ex}(h:a∈args):a.bk<(Ex.mk op n v name nl args).bk:=by
 have h1:=Ex.bk_mk op n v name nl args
 have h2:J6 a.ds<=D5 (xL args):=A3N (D9.2 ⟨a,h,rfl⟩)
 unfold Ex.bk at *
 omega
theorem Ex.bk_bounds{op n:Int}{v:Vl}{name:List UInt8}{nl:Bool}{args:List Ex}{B:Nat}(h:(Ex.mk op n v name nl args).bk<=B):args.length<=B/\v.s.length<=B/\name.length<=B/\∀a∈args,a.bk<=B:=by
 have h1:=Ex.bk_mk op n v name nl args
 have h2:=C5M args
 exact⟨by omega,by omega,by omega,λa ha=>by have:=Ex.bk_arg (op:=op) (n:=n) (v:=v) (name:=name) (nl:=nl) ha;omega⟩
end Go.Proofs
end
section
namespace Go.Proofs
open Go.Bi
abbrev B4:=List Vl
def K0:B4->B4->Int
 |v::r,w::s=>if b6 v w=0 then K0 r s else b6 v w
 |[],_::_=>-1
 |_::_,[]=>1
 |[],[]=>0
theorem D7G{a b:B4}{i:Nat}{v w:Vl}(h:a[i]?=some v)(g:b[i]?=some w):K0 (a.drop i) (b.drop i)=if b6 v w=0 then K0 (a.drop (i+1)) (b.drop (i+1)) else b6 v w:=by
 obtain⟨h1,h2⟩:=B3.1 h
 obtain⟨g1,g2⟩:=B3.1 g
 rw[R4 h1,R4 g1,h2,g2]
 rfl
theorem A8j(a b:B4)(ha:a.length<=4294967296)(hb:b.length<=4294967296)(d1 d2:D)(h1:B0 d1 (B2 a))(h2:B0 d2 (B2 b)):Pure Tryz.prog B9k [.d d1,.d d2] (.d (eI (K0 a b))):=by
 have l1:=Q2 a
 have l2:=Q2 b
 have m1:=Q3 a
 have m2:=Q3 b
 have g1:=λi v=>@m6 a i v
 have g2:=λi v=>@m6 b i v
 obtain⟨es,hes⟩:∃z,z=B2 a:=⟨_,rfl⟩
 obtain⟨fs,hfs⟩:∃z,z=B2 b:=⟨_,rfl⟩
 rw[<- hes] at h1 l1 m1 g1
 rw[<- hfs] at h2 l2 m2 g2
 clear hes hfs
 obtain⟨q,hq⟩:∃q,q=K0 a b:=⟨_,rfl⟩
 rw[<- hq]
 refine C8C.go A6 rfl ?_
 repeat' first|refine st ?_|refine⟨λ_=>?_,λ_=>?_⟩|fail
 refine J5 A6 D2h D0W (λ(i:Nat)=>[.d (eI i)]) (λi=>[]) (λi=>i<=a.length/\i<=b.length/\q=K0 (a.drop i) (b.drop i)) (λi=>a.length-i) 0 rfl rfl rfl rfl (λ_ _=>⟨rfl,rfl⟩) rfl ⟨by omega,by omega,hq⟩ ?_
 repeat' first|refine st ?_|refine⟨λ_=>?_,λ_=>?_⟩|fail
 intro i ⟨i1,i2,i3⟩
 clear hq
 cases hx:a[i]? with
 |some v=>
  have hlt:=(B3.1 hx).1
  have hil:(i:Int)<es.length:=by omega
  cases hy:b[i]? with
  |some w=>
   have hlt2:=(B3.1 hy).1
   have hil2:(i:Int)<fs.length:=by omega
   have e1:es[((i:Nat):Int).toNat]?=some v.ds:=g1 i v hx
   have e2:fs[((i:Nat):Int).toNat]?=some w.ds:=g2 i w hy
   have hC:=A8i v w
   rw[D7G hx hy] at i3
   obtain⟨c,hc⟩:∃c,c=b6 v w:=⟨_,rfl⟩
   rw[<- hc] at hC i3
   clear hc hx hy g1 g2
   by_cases h0:c=0
   ·rw[if_pos h0] at i3
    subst h0
    repeat' first|refine st ?_|refine⟨λ_=>?_,λ_=>?_⟩|fail
    exact⟨i+1,rfl,rfl,rfl,by omega,by omega,by omega,i3⟩
   ·rw[if_neg h0] at i3
    subst i3
    repeat' first|refine st ?_|refine⟨λ_=>?_,λ_=>?_⟩|fail
    all_goals rfl
  |none=>
   have hge:=F2.1 hy
   have hil2:(fs.length:Int)<=i:=by omega
   have hll:(fs.length:Int)<es.length:=by omega
   rw[R5 hge,R4 hlt] at i3
   have i3:q=1:=i3
   subst i3
   clear hx hy g1 g2
   repeat' first|refine st ?_|refine⟨λ_=>?_,λ_=>?_⟩|fail
   all_goals rfl
 |none=>
  have hge:=F2.1 hx
  have hil:(es.length:Int)<=i:=by omega
  rw[R5 hge] at i3
  by_cases hb:b.length<=i
  ·rw[R5 hb] at i3
   have i3:q=0:=i3
   subst i3
   have e1:¬(es.length:Int)<fs.length:=by omega
   have e2:¬(fs.length:Int)<es.length:=by omega
   clear hx g1 g2
   repeat' first|refine st ?_|refine⟨λ_=>?_,λ_=>?_⟩|fail
   all_goals rfl
  ·rw[R4 (by omega)] at i3
   have i3:q=-1:=i3
   subst i3
   have e1:(es.length:Int)<fs.length:=by omega
   clear hx g1 g2
   repeat' first|refine st ?_|refine⟨λ_=>?_,λ_=>?_⟩|fail
   all_goals rfl
theorem A6g(a b:B4)(ha:a.length<=4294967296)(hb:b.length<=4294967296)(d1 d2:D)(h1:B0 d1 (B2 a))(h2:B0 d2 (B2 b)):Pure Tryz.prog B1i [.d d1,.d d2] (.d (.bool (decide (K0 a b=0)))):=by
 have hC:=A8j a b ha hb d1 d2 h1 h2
 refine C8F.go A6 rfl ?_
 repeat' first|refine st ?_|refine⟨λ_=>?_,λ_=>?_⟩|fail
 all_goals first|rfl|(rename_i h;simp[h];done)
theorem C7F(a b:B4)(ha:a.length<=4294967296)(hb:b.length<=4294967296)(d1 d2:D)(h1:B0 d1 (B2 a))(h2:B0 d2 (B2 b)):Pure Tryz.prog B9r [.d d1,.d d2,.d .nil] (.d (.bool (decide (K0 a b<0)))):=by
 have hC:=A8j a b ha hb d1 d2 h1 h2
 refine C8L.go A6 rfl ?_
 repeat' first|refine st ?_|refine⟨λ_=>?_,λ_=>?_⟩|fail
 refine J5 A6 D2n D12 (λ(i:Nat)=>[.d (eI i)]) (λi=>[]) (λi=>i=0) (λi=>0) 0 rfl rfl rfl rfl (λ_ _=>⟨rfl,rfl⟩) rfl rfl ?_
 repeat' first|refine st ?_|refine⟨λ_=>?_,λ_=>?_⟩|fail
 intro i hi
 subst hi
 repeat' first|refine st ?_|refine⟨λ_=>?_,λ_=>?_⟩|fail
 all_goals first|rfl|(rename_i h;simp[h];done)|(exfalso;simp_all;done)
def rD(l:List B4):List (List D):=l.map λr=>[.sl (B2 r)]
theorem v6(l:List B4):(rD l).length=l.length:=by simp[rD]
theorem v7(l:List B4):∀e∈rD l,e.length=1:=by
 intro e he
 obtain⟨x,_,rfl⟩:=D9.1 he
 rfl
theorem A3i{l:List B4}{i:Nat}{r:B4}(h:l[i]?=some r):(rD l)[i]?=some [.sl (B2 r)]:=by simp[rD,h]
theorem A2E(l m:List B4):rD (l++m)=rD l++rD m:=by simp[rD]
def P6:List B4->List B4->List B4
 |[],b=>b
 |a,[]=>a
 |x::a,y::b=>if K0 y x<0 then y::P6 (x::a) b else x::P6 a (y::b)
termination_by a b=>a.length+b.length
theorem A5Q(a:List B4):P6 a []=a:=by cases a<;>simp[P6]
theorem A7u:∀(n:Nat)(a b:List B4),a.length+b.length<=n->(P6 a b).length=a.length+b.length
 |_,[],b,_=>by simp[P6]
 |_,x::a,[],_=>by simp[P6]
 |0,x::a,y::b,h=>by simp at h
 |n+1,x::a,y::b,h=>by
  rw[P6]
  simp only[H7] at h
  split
  ·rw[H7,A7u n _ _ (by simp only[H7];omega)];simp only[H7];omega
  ·rw[H7,A7u n _ _ (by simp only[H7];omega)];simp only[H7];omega
theorem C7G(a b:List B4)(hab:a.length+b.length<=4294967296)(ha:∀r∈a,r.length<=4294967296)(hb:∀r∈b,r.length<=4294967296) :
  Pure Tryz.prog B9s [.d (.sl (rD a)),.d (.sl (rD b)),.d .nil] (.d (.sl (rD (P6 a b)))):=by
 have l1:=v6 a
 have l2:=v6 b
 have m1:=v7 a
 have m2:=v7 b
 have g1:=λi v=>@A3i a i v
 have g2:=λi v=>@A3i b i v
 obtain⟨es,hes⟩:∃z,z=rD a:=⟨_,rfl⟩
 obtain⟨fs,hfs⟩:∃z,z=rD b:=⟨_,rfl⟩
 rw[<- hes] at l1 m1 g1 ⊢
 rw[<- hfs] at l2 m2 g2 ⊢
 clear hes hfs
 have hml:=A7u _ a b (D4 _)
 obtain⟨q,hq⟩:∃q,q=P6 a b:=⟨_,rfl⟩
 rw[<- hq] at hml ⊢
 refine C8M.go A6 rfl ?_
 repeat' first|refine st ?_|refine⟨λ_=>?_,λ_=>?_⟩|fail
 refine A6b A6 D2o D13 (λ(i k:Nat) (w:List B4)=>[.arr 0 (rD w).length,.d (eI i),.d (eI k)]) (λi k w=>[.arr (rD w) 1 0 false]) (λi k w=>i<=a.length/\k<=b.length/\q=w++P6 (a.drop i) (b.drop k)) (λi k w=>a.length-i+(b.length-k)) 0 0 [] rfl rfl rfl rfl (λ_ _ _ _=>⟨rfl,rfl⟩) rfl ⟨by omega,by omega,hq⟩ ?_
 repeat' first|refine st ?_|refine⟨λ_=>?_,λ_=>?_⟩|fail
 intro i k w ⟨i1,i2,i3⟩
 clear hq
 have hwl:w.length+(a.length-i)+(b.length-k)=q.length:=by
  have:=congrArg List.length i3
  rw[H3,A7u _ _ _ (D4 _),Y6,Y6] at this
  omega
 have hw1:=v6 w
 have hwm:=v7 w
 have hbd:((rD w).length+1)*24<=140737488355328:=by omega
 have happ:=λx=>show rD (w++[x])=rD w++[[.sl (B2 x)]] by rw[A2E];rfl
 obtain⟨A,hA⟩:∃z,z=rD w:=⟨_,rfl⟩
 rw[<- hA] at hw1 hwm hbd ⊢
 cases hx:a[i]? with
 |some x=>
  have hlt:=(B3.1 hx).1
  have hil:(i:Int)<es.length:=by omega
  have e1:es[((i:Nat):Int).toNat]?=some [.sl (B2 x)]:=g1 i x hx
  have dx:a.drop i=x::a.drop (i+1):=by rw[R4 hlt,(B3.1 hx).2]
  have happx:=happ x
  rw[<- hA] at happx
  cases hy:b[k]? with
  |some y=>
   have hlt2:=(B3.1 hy).1
   have hil2:(k:Int)<fs.length:=by omega
   have e2:fs[((k:Nat):Int).toNat]?=some [.sl (B2 y)]:=g2 k y hy
   have dy:b.drop k=y::b.drop (k+1):=by rw[R4 hlt2,(B3.1 hy).2]
   have hB:=C7F y x (hb y (C3 hy)) (ha x (C3 hx)) (.sl (B2 y)) (.sl (B2 x)) (.inr rfl) (.inr rfl)
   have happy:=happ y
   rw[<- hA] at happy
   have hne:¬(i:Int)=es.length:=by omega
   by_cases h0:K0 y x<0
   ·rw[decide_eq_true h0] at hB
    have i4:q=(w++[y])++P6 (a.drop i) (b.drop (k+1)):=by
     rw[i3,dx,dy,P6,if_pos h0,S6];rfl
    clear i3 happ dx dy hx hy g1 g2 ha hb
    repeat' first|refine st ?_|refine⟨λ_=>?_,λ_=>?_⟩|fail
    exact⟨i,k+1,w++[y],by rw[happy];first|done|rfl|simp,rfl,by rw[happy];rfl,by omega,by omega,by omega,i4⟩
   ·rw[decide_eq_false h0] at hB
    have i4:q=(w++[x])++P6 (a.drop (i+1)) (b.drop k):=by
     rw[i3,dx,dy,P6,if_neg h0,S6];rfl
    clear i3 happ dx dy hx hy g1 g2 ha hb
    repeat' first|refine st ?_|refine⟨λ_=>?_,λ_=>?_⟩|fail
    exact⟨i+1,k,w++[x],by rw[happx];first|done|rfl|simp,rfl,by rw[happx];rfl,by omega,by omega,by omega,i4⟩
  |none=>
   have hge:=F2.1 hy
   have hil2:(fs.length:Int)<=k:=by omega
   have hne:¬(i:Int)=es.length:=by omega
   have i4:q=(w++[x])++P6 (a.drop (i+1)) (b.drop k):=by
    rw[i3,dx,R5 hge,A5Q,A5Q,S6];rfl
   clear i3 happ dx hx hy g1 g2 ha hb
   repeat' first|refine st ?_|refine⟨λ_=>?_,λ_=>?_⟩|fail
   exact⟨i+1,k,w++[x],by rw[happx];first|done|rfl|simp,rfl,by rw[happx];rfl,by omega,by omega,by omega,i4⟩
 |none=>
  have hge:=F2.1 hx
  have hil:(es.length:Int)<=i:=by omega
  have hie:(i:Int)=es.length:=by omega
  cases hy:b[k]? with
  |some y=>
   have hlt2:=(B3.1 hy).1
   have hil2:(k:Int)<fs.length:=by omega
   have e2:fs[((k:Nat):Int).toNat]?=some [.sl (B2 y)]:=g2 k y hy
   have dy:b.drop k=y::b.drop (k+1):=by rw[R4 hlt2,(B3.1 hy).2]
   have happy:=happ y
   rw[<- hA] at happy
   have i4:q=(w++[y])++P6 (a.drop i) (b.drop (k+1)):=by
    rw[i3,dy,R5 hge,P6,P6,S6];rfl
   clear i3 happ dy hx hy g1 g2 ha hb
   repeat' first|refine st ?_|refine⟨λ_=>?_,λ_=>?_⟩|fail
   exact⟨i,k+1,w++[y],by rw[happy];first|done|rfl|simp,rfl,by rw[happy];rfl,by omega,by omega,by omega,i4⟩
  |none=>
   have hge2:=F2.1 hy
   have hil2:(fs.length:Int)<=k:=by omega
   have i4:q=w:=by rw[i3,R5 hge,R5 hge2,P6,W2]
   subst i4
   clear i3 happ hx hy g1 g2 ha hb
   rw[<- hA]
   repeat' first|refine st ?_|refine⟨λ_=>?_,λ_=>?_⟩|fail
   all_goals rfl
end Go.Proofs
end
section
namespace Go.Proofs
open Go.Bi
structure Rw where
 nl:Bool
 vs:B4
abbrev Rw.d(r:Rw):D:=ng r.nl (B2 r.vs)
def B6(l:List Rw):List (List D):=l.map λr=>[r.d]
theorem W0(l:List Rw):(B6 l).length=l.length:=by simp[B6]
theorem X8(l:List Rw):∀e∈B6 l,e.length=1:=by
 intro e he
 obtain⟨x,_,rfl⟩:=D9.1 he
 rfl
theorem A1d{l:List Rw}{i:Nat}{r:Rw}(h:l[i]?=some r):(B6 l)[i]?=some [r.d]:=by simp[B6,h]
theorem D8o(l:List Rw)(i:Nat):(B6 l).take i=B6 (l.take i):=by simp[B6]
theorem D8n(l:List Rw)(i:Nat):(B6 l).drop i=B6 (l.drop i):=by simp[B6]
def H9(l:List B4):List Rw:=l.map (Rw.mk false)
theorem A9h(l:List B4):B6 (H9 l)=rD l:=by
 unfold B6 H9 rD
 rw[W3]
 rfl
def A8(l:List Rw):List B4:=l.map Rw.vs
theorem A2M(l:List B4):A8 (H9 l)=l:=by
 unfold A8 H9
 rw[W3]
 exact A05 _
def D2(l:List B4):List B4:=if h:l.length<=1 then l else P6 (D2 (l.take (l.length / 2))) (D2 (l.drop (l.length / 2)))
termination_by l.length
decreasing_by
 ·rw[L6];omega
 ·rw[Y6];omega
theorem A1m:∀(n:Nat)(l:List B4),l.length<=n->(D2 l).length=l.length
 |0,l,h=>by rw[D2,dif_pos (by omega)]
 |n+1,l,h=>by
  rw[D2]
  split
  ·rfl
  ·rw[A7u _ _ _ (D4 _),A1m n _ (by rw[L6];omega),A1m n _ (by rw[Y6];omega),L6,Y6];omega
theorem A7v:∀(n:Nat)(a b:List B4),a.length+b.length<=n->∀x,x∈P6 a b->x∈a\/x∈b
 |_,[],b,_,x,h=>by rw[P6] at h;exact .inr h
 |_,y::a,[],_,x,h=>by rw[A5Q] at h;exact .inl h
 |0,y::a,z::b,h,_,_=>by simp at h
 |n+1,y::a,z::b,h,x,hx=>by
  simp only[H7] at h
  rw[P6] at hx
  split at hx
  ·rcases I2.1 hx with rfl|hx
   ·exact .inr (by simp)
   ·rcases A7v n _ _ (by simp only[H7];omega) x hx with h1|h1
    ·exact .inl h1
    ·exact .inr (I8 _ h1)
  ·rcases I2.1 hx with rfl|hx
   ·exact .inl (by simp)
   ·rcases A7v n _ _ (by simp only[H7];omega) x hx with h1|h1
    ·exact .inl (I8 _ h1)
    ·exact .inr h1
theorem A20:∀(n:Nat)(l:List B4),l.length<=n->∀x,x∈D2 l->x∈l
 |0,l,h,x,hx=>by rw[D2,dif_pos (by omega)] at hx;exact hx
 |n+1,l,h,x,hx=>by
  rw[D2] at hx
  split at hx
  ·exact hx
  ·rcases A7v _ _ _ (D4 _) x hx with h1|h1
   ·exact A2Y (A20 n _ (by rw[L6];omega) x h1)
   ·exact A2X (A20 n _ (by rw[Y6];omega) x h1)
theorem C7D:∀(n:Nat)(l:List Rw),l.length<=n->n<=4294967296->(∀r∈l,r.vs.length<=4294967296)->∀d,B0 d (B6 l)->Pure Tryz.prog B9o [.d d,.d .nil] (.d (.sl (rD (D2 (A8 l))))):=by
 intro n
 induction n with
 |zero=>
  intro l hn _ _ d hd
  have hl:l=[]:=A0H.1 (by omega)
  subst hl
  have h1:(B6 []).length=0:=rfl
  obtain⟨q,hq⟩:∃q,q=rD (D2 (A8 [])):=⟨_,rfl⟩
  have hq2:q=[]:=by rw[hq,D2,dif_pos (by decide)];rfl
  rw[<- hq,hq2]
  refine A8o.go A6 rfl ?_
  repeat' first|refine st ?_|((with_reducible apply A4);conv=>whnf)|refine⟨λ_=>?_,λ_=>?_⟩|fail
  all_goals rfl
 |succ n ih=>
  intro l hn hN hr d hd
  have h1:=W0 l
  have hm:=X8 l
  have hg:=λi r=>@A1d l i r
  have hvl:(A8 l).length=l.length:=by unfold A8;rw[D3]
  obtain⟨q,hq⟩:∃q,q=rD (D2 (A8 l)):=⟨_,rfl⟩
  rw[<- hq]
  by_cases h0:l.length=0
  ·have hl:l=[]:=A0H.1 h0
   subst hl
   have hq2:q=[]:=by rw[hq,D2,dif_pos (by decide)];rfl
   have h1:(B6 []).length=0:=rfl
   rw[hq2]
   refine A8o.go A6 rfl ?_
   repeat' first|refine st ?_|((with_reducible apply A4);conv=>whnf)|refine⟨λ_=>?_,λ_=>?_⟩|fail
   all_goals rfl
  by_cases h2:l.length=1
  ·obtain⟨r,rfl⟩:=List.length_eq_one_iff.1 h2
   have hq2:q=[[.sl (B2 r.vs)]]:=by rw[hq,D2,dif_pos (show(A8 [r]).length<=1 from D4 1)];rfl
   have hd:d=.sl [[r.d]]:=by
    rcases hd with ⟨_,h⟩|h
    ·cases h
    ·exact h
   subst hd
   have hrl:=hr r (by simp)
   have hrd:B0 r.d (B2 r.vs):=C7
   have hvl:=Q2 r.vs
   have hvm:=Q3 r.vs
   obtain⟨rd,hrd'⟩:∃z,z=r.d:=⟨_,rfl⟩
   rw[<- hrd'] at hrd ⊢
   obtain⟨E,hE⟩:∃z,z=B2 r.vs:=⟨_,rfl⟩
   rw[<- hE] at hrd hvl hvm hq2
   rw[hq2]
   clear hg hm h1 hq hq2 hrd' hE hr ih
   have hb:(([]:List (List D)).length+E.length)*32<=140737488355328/\([]:List (List D)).length+E.length<=9223372036854775807:=by simp;omega
   refine A8o.go A6 rfl ?_
   repeat' first|refine st ?_|((with_reducible apply A4);conv=>whnf)|refine⟨λ_=>?_,λ_=>?_⟩|fail
   all_goals (cases E<;>rfl)
  ·have hm2:((l.length:Nat):Int).tdiv 2=((l.length / 2:Nat):Int):=by rw[A8u (by omega)];omega
   obtain⟨m,hmm⟩:∃m,m=l.length / 2:=⟨_,rfl⟩
   rw[<- hmm] at hm2
   have hml:m<=l.length:=by omega
   have hd:d=.sl (B6 l):=by
    rcases hd with ⟨_,h⟩|h
    ·rw[h] at h1;simp at h1;omega
    ·exact h
   have hA:=ih (l.take m) (by rw[L6];omega) (by omega) (λr h=>hr r (A2Y h)) (.sl (((B6 l).drop (0:Int).toNat).take ((m:Int).toNat-(0:Int).toNat))) (by rw[show((m:Int).toNat-(0:Int).toNat)=m by simp];exact .inr (by rw[<- D8o];rfl))
   have hB:=ih (l.drop m) (by rw[Y6];omega) (by omega) (λr h=>hr r (A2X h)) (.sl (((B6 l).drop (m:Int).toNat).take ((l.length:Int).toNat-(m:Int).toNat))) (by
    rw[show((l.length:Int).toNat-(m:Int).toNat)=l.length-m by simp,show(m:Int).toNat=m from Int.toNat_natCast m]
    exact .inr (by rw[H0 (by rw[Y6,W0];omega),D8n]))
   have e1:A8 (l.take m)=(A8 l).take m:=by unfold A8;rw[List.map_take]
   have e2:A8 (l.drop m)=(A8 l).drop m:=by unfold A8;rw[List.map_drop]
   rw[e1] at hA
   rw[e2] at hB
   have hvr:∀r∈A8 l,r.length<=4294967296:=λr h=>by
    obtain⟨x,hx,rfl⟩:=D9.1 h
    exact hr x hx
   have n1:=A1m _ ((A8 l).take m) (D4 _)
   have n2:=A1m _ ((A8 l).drop m) (D4 _)
   have hM:=C7G (D2 ((A8 l).take m)) (D2 ((A8 l).drop m)) (by rw[n1,n2,L6,Y6];omega) (λr h=>hvr r (A2Y (A20 _ _ (D4 _) r h))) (λr h=>hvr r (A2X (A20 _ _ (D4 _) r h)))
   have hq2:q=rD (P6 (D2 ((A8 l).take m)) (D2 ((A8 l).drop m))):=by
    rw[hq,D2,dif_neg (by rw[hvl];omega),hvl,<- hmm]
   rw[hq2]
   obtain⟨Z,hZ⟩:∃z,z=rD (P6 (D2 ((A8 l).take m)) (D2 ((A8 l).drop m))):=⟨_,rfl⟩
   obtain⟨Za,hZa⟩:∃z,z=rD (D2 ((A8 l).take m)):=⟨_,rfl⟩
   obtain⟨Zb,hZb⟩:∃z,z=rD (D2 ((A8 l).drop m)):=⟨_,rfl⟩
   rw[<- hZ] at hM ⊢
   rw[<- hZa] at hA hM
   rw[<- hZb] at hB hM
   subst hd
   obtain⟨es,hes⟩:∃z,z=B6 l:=⟨_,rfl⟩
   rw[<- hes] at hA hB h1 hm ⊢
   rw[<- h1] at hm2 hB
   have hml:(m:Int)<=es.length:=by omega
   have h00:¬(es.length:Int)=0:=by omega
   have h11:¬(es.length:Int)=1:=by omega
   clear hg hq hq2 hZ hZa hZb hes hr ih hvr n1 n2 e1 e2
   refine A8o.go A6 rfl ?_
   repeat' first|(rw[hm2])|refine st ?_|((with_reducible apply A4);conv=>whnf)|refine⟨λ_=>?_,λ_=>?_⟩|fail
   all_goals rfl
theorem A0D(l:List Rw)(hl:l.length<=4294967296)(hr:∀r∈l,r.vs.length<=4294967296)(d:D)(hd:B0 d (B6 l)):Pure Tryz.prog B1l [.d d] (.d (.sl (rD (D2 (A8 l))))):=by
 have hO:=C7D _ l (D4 _) hl hr d hd
 obtain⟨Z,hZ⟩:∃z,z=rD (D2 (A8 l)):=⟨_,rfl⟩
 rw[<- hZ] at hO ⊢
 refine C8K.go A6 rfl ?_
 repeat' first|refine st ?_|((with_reducible apply A4);conv=>whnf)|refine⟨λ_=>?_,λ_=>?_⟩|fail
 all_goals rfl
def P4:Option B4->List B4->List B4
 |_,[]=>[]
 |none,x::r=>x::P4 (some x) r
 |some p,x::r=>if K0 p x=0 then P4 (some x) r else x::P4 (some x) r
theorem A9e:∀(l:List B4)(p:Option B4),(P4 p l).length<=l.length
 |[],p=>by cases p<;>simp[P4]
 |x::r,none=>by have:=A9e r (some x);simp only[P4,H7];omega
 |x::r,some p=>by
  have:=A9e r (some x)
  simp only[P4]
  split
  ·simp only[H7];omega
  ·simp only[H7];omega
def A3h(l:List B4)(i:Nat):Option B4:=if i=0 then none else l[i-1]?
theorem C7B(l:List Rw)(hl:l.length<=4294967296)(hr:∀r∈l,r.vs.length<=4294967296)(d:D)(hd:B0 d (B6 l)):Pure Tryz.prog B9m [.d d] (.d (.sl (rD (P4 none (D2 (A8 l)))))):=by
 have hO:=A0D l hl hr d hd
 have hvl:(A8 l).length=l.length:=by unfold A8;rw[D3]
 have hol:=A1m _ (A8 l) (D4 _)
 have hor:∀r∈D2 (A8 l),r.length<=4294967296:=λr h=>by
  obtain⟨x,hx,rfl⟩:=D9.1 (A20 _ _ (D4 _) r h)
  exact hr x hx
 obtain⟨Z,hZ⟩:∃z,z=D2 (A8 l):=⟨_,rfl⟩
 rw[<- hZ] at hO hol hor ⊢
 have l1:=v6 Z
 have m1:=v7 Z
 have g1:=λi v=>@A3i Z i v
 obtain⟨es,hes⟩:∃z,z=rD Z:=⟨_,rfl⟩
 rw[<- hes] at hO l1 m1 g1
 clear hes hZ hd hr
 have hql:=A9e Z none
 obtain⟨q,hq⟩:∃q,q=P4 none Z:=⟨_,rfl⟩
 rw[<- hq] at hql ⊢
 refine C8E.go A6 rfl ?_
 repeat' first|refine st ?_|((with_reducible apply A4);conv=>whnf)|refine⟨λ_=>?_,λ_=>?_⟩|fail
 refine M5 A6 D2i D0X (λ(i:Nat) (w:List B4)=>[.arr 0 (rD w).length,.d (eI i)]) (λi w=>[.arr (rD w) 1 0 false]) (λi w=>i<=Z.length/\w.length<=i/\q=w++P4 (A3h Z i) (Z.drop i)) (λi w=>Z.length-i) 0 [] rfl rfl rfl rfl (λ_ _ _=>⟨rfl,rfl⟩) rfl ⟨by omega,D4 _,hq⟩ ?_
 repeat' first|refine st ?_|((with_reducible apply A4);conv=>whnf)|refine⟨λ_=>?_,λ_=>?_⟩|fail
 intro i w ⟨i1,i2,i3⟩
 clear hq
 have hw1:=v6 w
 have hwm:=v7 w
 have hbd:((rD w).length+1)*24<=140737488355328:=by omega
 have happ:=λx=>show rD (w++[x])=rD w++[[.sl (B2 x)]] by rw[A2E];rfl
 obtain⟨A,hA⟩:∃z,z=rD w:=⟨_,rfl⟩
 rw[<- hA] at hw1 hwm hbd ⊢
 cases hx:Z[i]? with
 |some x=>
  have hlt:=(B3.1 hx).1
  have hil:(i:Int)<es.length:=by omega
  have e1:es[((i:Nat):Int).toNat]?=some [.sl (B2 x)]:=g1 i x hx
  have dx:Z.drop i=x::Z.drop (i+1):=by rw[R4 hlt,(B3.1 hx).2]
  have hp:A3h Z (i+1)=some x:=by unfold A3h;rw[if_neg (by omega)];exact hx
  have happx:=happ x
  rw[<- hA] at happx
  by_cases h0:i=0
  ·subst h0
   have i4:q=(w++[x])++P4 (A3h Z 1) (Z.drop 1):=by
    rw[i3,dx,hp,S6];rfl
   clear i3 happ dx hp hx g1
   repeat' first|refine st ?_|((with_reducible apply A4);conv=>whnf)|refine⟨λ_=>?_,λ_=>?_⟩|fail
   exact⟨1,w++[x],by rw[happx];first|done|rfl|simp,rfl,by rw[happx];rfl,by omega,by omega,by rw[H3];exact Nat.add_le_add_right i2 1,i4⟩
  ·obtain⟨p,hpp⟩:∃p,Z[i-1]?=some p:=⟨_,F1 (by omega)⟩
   have e2:es[((i:Int)-1).toNat]?=some [.sl (B2 p)]:=by rw[show((i:Int)-1).toNat=i-1 by omega];exact g1 (i-1) p hpp
   have hpi:A3h Z i=some p:=by unfold A3h;rw[if_neg h0];exact hpp
   have hE:=A6g p x (hor p (C3 hpp)) (hor x (C3 hx)) (.sl (B2 p)) (.sl (B2 x)) (.inr rfl) (.inr rfl)
   have hi0:¬(i:Int)=0:=by omega
   by_cases hc:K0 p x=0
   ·rw[decide_eq_true hc] at hE
    have i4:q=w++P4 (A3h Z (i+1)) (Z.drop (i+1)):=by
     rw[i3,dx,hp,hpi,P4,if_pos hc]
    clear i3 happ dx hp hx g1 happx hpp hpi
    repeat' first|refine st ?_|((with_reducible apply A4);conv=>whnf)|refine⟨λ_=>?_,λ_=>?_⟩|fail
    exact⟨i+1,w,by rw[hA];first|done|rfl,rfl,by rw[hA];first|done|rfl,by omega,by omega,by omega,i4⟩
   ·rw[decide_eq_false hc] at hE
    have i4:q=(w++[x])++P4 (A3h Z (i+1)) (Z.drop (i+1)):=by
     rw[i3,dx,hp,hpi,P4,if_neg hc,S6];rfl
    clear i3 happ dx hp hx g1 hpp hpi
    repeat' first|refine st ?_|((with_reducible apply A4);conv=>whnf)|refine⟨λ_=>?_,λ_=>?_⟩|fail
    exact⟨i+1,w++[x],by rw[happx];first|done|rfl|simp,rfl,by rw[happx];rfl,by omega,by omega,by rw[H3];exact Nat.add_le_add_right i2 1,i4⟩
 |none=>
  have hge:=F2.1 hx
  have hil:(es.length:Int)<=i:=by omega
  have i4:q=w:=by rw[i3,R5 hge];cases A3h Z i<;>simp[P4]
  subst i4
  clear i3 happ hx g1
  rw[<- hA]
  repeat' first|refine st ?_|((with_reducible apply A4);conv=>whnf)|refine⟨λ_=>?_,λ_=>?_⟩|fail
  all_goals rfl
end Go.Proofs
end
section
namespace Go.Proofs
open Go.Bi
structure Ag where
 op:Int
 arg:Int
abbrev Ag.ds(a:Ag):List D:=[eI a.op,eI a.arg]
def H4(l:List Ag):List (List D):=l.map Ag.ds
theorem A5u(l:List Ag):(H4 l).length=l.length:=by simp[H4]
theorem A70(l:List Ag):∀e∈H4 l,e.length=2:=by
 intro e he
 obtain⟨x,_,rfl⟩:=D9.1 he
 rfl
theorem B2f{l:List Ag}{i:Nat}{a:Ag}(h:l[i]?=some a):(H4 l)[i]?=some a.ds:=by simp[H4,h]
structure Po where
 op:Int
 n:Int
 nk:Bool
 ki:List Int
 nr:Bool
 rows:List Rw
 pred:Ex
 nx:Bool
 xs:List Ex
 ny:Bool
 keys:List Int
 na:Bool
 aggs:List Ag
abbrev Po.dk(o:Po):D:=ng o.nk (A5 o.ki)
abbrev Po.dr(o:Po):D:=ng o.nr (B6 o.rows)
abbrev Po.dx(o:Po):D:=ng o.nx (xL o.xs)
abbrev Po.dy(o:Po):D:=ng o.ny (A5 o.keys)
abbrev Po.da(o:Po):D:=ng o.na (H4 o.aggs)
inductive Pl where
 |mk (o:Po) (ni:Bool) (ins:List Pl)
theorem Pl.ind{p:Pl->Prop}(h:∀o ni ins,(∀a∈ins,p a)->p (.mk o ni ins)):∀e,p e
 |.mk o ni ins=>h _ _ _ λa ha=>Pl.ind h a
termination_by e=>SizeOf.sizeOf e
decreasing_by
 have:=List.sizeOf_lt_of_mem ha
 simp only[Pl.mk.sizeOf_spec]
 omega
abbrev B38(o:Po)(di:D):List D:=[eI o.op,eI o.n,o.dk,o.dr]++o.pred.ds++[o.dx,o.dy,o.da,di]
mutual
def Pl.ds:Pl->List D
 |.mk o ni ins=>B38 o (ng ni (Pl.dss ins))
def Pl.dss:List Pl->List (List D)
 |[]=>[]
 |e::es=>e.ds::Pl.dss es
end
theorem Pl.dss_eq:∀l,Pl.dss l=l.map Pl.ds
 |[]=>by simp[Pl.dss]
 |e::es=>by simp[Pl.dss,Pl.dss_eq es]
def pL(l:List Pl):List (List D):=l.map Pl.ds
theorem Pl.ds_mk(o:Po)(ni:Bool)(ins:List Pl):(Pl.mk o ni ins).ds=B38 o (ng ni (pL ins)):=by
 rw[Pl.ds,Pl.dss_eq];rfl
def Pl.av(e:Pl):AV:=.agg (e.ds.map .d)
abbrev F3(op n:Int)(dk dr:D)(xo xn:Int)(xv:Vl)(xm:List UInt8)(xd:D)(dx dy da di:D):AV:=.agg [.d (eI op),.d (eI n),.d dk,.d dr,.d (eI xo),.d (eI xn),.d (eI xv.k),.d (eI xv.n),.d (.str xv.s),.d (.str xm),.d xd,.d dx,.d dy,.d da,.d di]
abbrev N9(op n:Int)(dk dr:D)(xo xn:Int)(xv:Vl)(xm:List UInt8)(xd:D)(dx dy da di:D):List D:=[eI op,eI n,dk,dr,eI xo,eI xn,eI xv.k,eI xv.n,.str xv.s,.str xm,xd,dx,dy,da,di]
theorem Pl.ds_eq(o:Po)(ni:Bool)(ins:List Pl)(xo xn:Int)(xv:Vl)(xm:List UInt8)(xl:Bool)(xa:List Ex)(h:o.pred=.mk xo xn xv xm xl xa) :
  (Pl.mk o ni ins).ds=N9 o.op o.n o.dk o.dr xo xn xv xm (ng xl (xL xa)) o.dx o.dy o.da (ng ni (pL ins)):=by
 rw[Pl.ds_mk]
 unfold B38
 rw[h,Ex.ds_mk]
 rfl
theorem Pl.av_eq(o:Po)(ni:Bool)(ins:List Pl)(xo xn:Int)(xv:Vl)(xm:List UInt8)(xl:Bool)(xa:List Ex)(h:o.pred=.mk xo xn xv xm xl xa) :
  (Pl.mk o ni ins).av=F3 o.op o.n o.dk o.dr xo xn xv xm (ng xl (xL xa)) o.dx o.dy o.da (ng ni (pL ins)):=by
 rw[Pl.av,Pl.ds_eq o ni ins xo xn xv xm xl xa h];rfl
theorem n7(l:List Pl):(pL l).length=l.length:=by simp[pL]
theorem Pl.ds_len(p:Pl):p.ds.length=15:=by
 obtain⟨⟨op,n,nk,ki,nr,rows,⟨xo,xn,xv,xm,xl,xa⟩,nx,xs,ny,keys,na,aggs⟩,ni,ins⟩:=p
 rw[Pl.ds_eq _ _ _ _ _ _ _ _ _ rfl];rfl
theorem u7(l:List Pl):∀e∈pL l,e.length=15:=by
 intro e he
 obtain⟨p,_,rfl⟩:=D9.1 he
 exact p.ds_len
theorem A0e{l:List Pl}{i:Nat}{e:Pl}(h:l[i]?=some e):(pL l)[i]?=some e.ds:=by simp[pL,h]
def Pl.bk(e:Pl):Nat:=J6 e.ds
theorem A2n(nl:Bool)(l:List (List D)):D5 l<=T6 (ng nl l):=by
 unfold ng
 split
 ·rename_i h
  simp only[J9,A0G] at h
  rw[h.2];simp[D5]
 ·simp only[T6];omega
theorem Pl.bk_mk(o:Po)(ni:Bool)(ins:List Pl):D5 (A5 o.ki)+D5 (B6 o.rows)+o.pred.bk+D5 (xL o.xs)+D5 (A5 o.keys)+D5 (H4 o.aggs)+D5 (pL ins)+2<=(Pl.mk o ni ins).bk:=by
 obtain⟨op,n,nk,ki,nr,rows,⟨xo,xn,xv,xm,xl,xa⟩,nx,xs,ny,keys,na,aggs⟩:=o
 rw[Pl.bk,Pl.ds_eq _ _ _ _ _ _ _ _ _ rfl,Ex.bk,Ex.ds_mk]
 have h1:=A2n nk (A5 ki)
 have h2:=A2n nr (B6 rows)
 have h3:=A2n nx (xL xs)
 have h4:=A2n ny (A5 keys)
 have h5:=A2n na (H4 aggs)
 have h6:=A2n ni (pL ins)
 simp only[N9,Po.dk,Po.dr,Po.dx,Po.dy,Po.da,U3,J6,T6] at *
 omega
theorem Pl.bk_arg{o:Po}{ni:Bool}{ins:List Pl}{a:Pl}(h:a∈ins):a.bk<(Pl.mk o ni ins).bk:=by
 have h1:=Pl.bk_mk o ni ins
 have h2:J6 a.ds<=D5 (pL ins):=A3N (D9.2 ⟨a,h,rfl⟩)
 unfold Pl.bk at *
 omega
theorem B2g(l:List Int):l.length<=D5 (A5 l):=by
 rw[<- G4 l]
 refine A4z λx hx=>?_
 obtain⟨k,_,rfl⟩:=D9.1 hx
 simp[J6,T6]
theorem C2v(l:List Rw):l.length<=D5 (B6 l):=by
 rw[<- W0 l]
 refine A4z λx hx=>?_
 obtain⟨k,_,rfl⟩:=D9.1 hx
 simp only[J6]
 unfold Rw.d ng
 split<;>simp[T6]<;>omega
theorem D8g(l:List Ag):l.length<=D5 (H4 l):=by
 rw[<- A5u l]
 refine A4z λx hx=>?_
 obtain⟨k,_,rfl⟩:=D9.1 hx
 simp[Ag.ds,J6,T6]
theorem E17(l:List Pl):l.length<=D5 (pL l):=by
 rw[<- n7 l]
 refine A4z λx hx=>?_
 obtain⟨p,_,rfl⟩:=D9.1 hx
 obtain⟨o,ni,ins⟩:=p
 have:=Pl.bk_mk o ni ins
 unfold Pl.bk at this
 omega
theorem C2w(l:List Vl):l.length<=D5 (B2 l)/\∀v∈l,v.s.length<=D5 (B2 l):=by
 constructor
 ·rw[<- Q2 l]
  refine A4z λx hx=>?_
  obtain⟨k,_,rfl⟩:=D9.1 hx
  simp only[Vl.ds,J6,T6];omega
 ·intro v hv
  have h3:J6 v.ds<=D5 (B2 l):=A3N (D9.2 ⟨v,hv,rfl⟩)
  have h4:v.s.length<=J6 v.ds:=by simp only[Vl.ds,J6,T6];omega
  omega
structure Pl.Bd(o:Po)(l:List Pl)(B:Nat):Prop where
 ki:o.ki.length<=B
 nr:o.rows.length<=B
 row:∀r∈o.rows,r.vs.length<=B/\∀v∈r.vs,v.s.length<=B
 pred:o.pred.bk<=B
 xs:o.xs.length<=B
 xb:∀e∈o.xs,e.bk<=B
 keys:o.keys.length<=B
 aggs:o.aggs.length<=B
 il:l.length<=B
 sub:∀a∈l,a.bk<=B
theorem Pl.bd{o:Po}{ni:Bool}{ins:List Pl}{B:Nat}(h:(Pl.mk o ni ins).bk<=B):Pl.Bd o ins B:=by
 have h1:=Pl.bk_mk o ni ins
 have a1:=B2g o.ki
 have a2:=C2v o.rows
 have a3:=C5M o.xs
 have a4:=B2g o.keys
 have a5:=D8g o.aggs
 have a6:=E17 ins
 refine⟨by omega,by omega,λr hr=>?_,by omega,by omega,λe he=>?_,by omega,by omega,by omega,λa ha=>?_⟩
 ·have b1:J6 [ng r.nl (B2 r.vs)]<=D5 (B6 o.rows):=A3N (D9.2 ⟨r,hr,rfl⟩)
  have b2:=A2n r.nl (B2 r.vs)
  have b3:D5 (B2 r.vs)<=B:=by simp only[J6] at b1;omega
  obtain⟨c1,c2⟩:=C2w r.vs
  exact⟨by omega,λv hv=>J2 (c2 v hv) b3⟩
 ·have b1:J6 e.ds<=D5 (xL o.xs):=A3N (D9.2 ⟨e,he,rfl⟩)
  unfold Ex.bk
  omega
 ·have:=Pl.bk_arg (o:=o) (ni:=ni) ha
  omega
end Go.Proofs
end
