/- Texts of this claim, joined. No condition. -/
import Derived.Test.YtnhhopmldgpglaaGreatDoorBi
import Derived.Test.YtnhhopmldgpglaaGreatDoorIc0
import Derived.Test.YtnhhopmldgpglaaGreatDoorIc1
import Derived.Test.YtnhhopmldgpglaaGreatDoorIc2
import Derived.Lib.Strings
import Derived.Lib.Slices
import Derived.Lib.Walk
import Derived.Lib.Bytealg
set_option linter.unusedSimpArgs false
set_option linter.unusedVariables false
set_option maxRecDepth 10000
set_option maxHeartbeats 4000000
section
namespace Go.Bi
open Go
section
variable {P:Program}{n nb:Nat}{M:C2}{G:Gh}{os:List AO}{w:World}{ρ:C5}{a:Act}
def A6U(Q:AV->List AO->Prop)(rs:List RV)(ρ:C5)(os:List AO):Prop:=k7 ρ os rs λl=>match l with
 |[v]=>Q v os
 |_=>False
def A6S(Q:AV->List AO->Prop)(rs:List RV)(L:Sl)(os:List AO):Prop:=A47 L os rs λl=>match l with
 |[v]=>Q v os
 |_=>False
theorem C1w{Q:AV->List AO->Prop}{rs:List RV}{L:Sl}{os:List AO}(h:A6S Q rs L os):A6U Q rs (D1 L) os:=A57 h
theorem D6x{c:u5}(hR:X0 n nb c M G os w ρ a){fn:Func}{rs:List RV}(hrs:fn.results.toList.mapM (cRV P)=some rs){Q:AV->List AO->Prop}(h:A6U Q rs ρ os) :
  ∃v,(results fn a.tmps).run P w=.ok v w/\∃M' G' r os',C0 M' G' os' w/\D6 c.M c.G c.os c.w M' G' os' w/\VA M' G' os' r v/\Q r os':=by
 obtain⟨l,vs,h1,h2,h3,h4⟩:=A90 hR.env hR.tmps _ rs hrs _ h
 match l,h1,h3,h4 with
 |[x],h1,h3,h4=>
  simp only[H7,P9] at h3
  refine⟨_,B28 h2,M,G,x,os,hR.env,hR.since,?_,h1⟩
  rw[dif_pos (by omega)]
  exact h4 0 x vs[0] rfl (C3 (by omega))
theorem D4z(hm:P.follows .mixedOrders=true){f:FuncId}{fn:Func}{code:Code}{ic:IC}{rs:List RV}(hf:P.funcs[f]?=some fn)(hname:fn.name≠ "runtime.NumGoroutine")(hb:fn.body=some code)(hc:cC P fn.ntmps code=some ic)
  (hrs:fn.results.toList.mapM (cRV P)=some rs) {args:List AV} {bs:List AO} (hargs:args.length<=fn.ntmps) {Q:AV->List AO->Prop}
  (h:W5 P fn.ntmps bs.length ic {norm:=A6U Q rs,exit:=λ_ _ _=>False,ret:=A6U Q rs} (A1B args) bs):B0 P f args bs Q:=by
 refine⟨⟨fn,hf,by rw[hb];rfl,hname⟩,λM G w vs he hl hv=>?_⟩
 refine calls_of_wp hf hb (wp_mono (A7f hm code ic hc _ _ _ h ⟨M,G,bs,w⟩ M G w {tmps:=vs++Array.replicate (fn.ntmps-vs.size) undef,defers:=[]} ?_) λe a' w' hp=>?_)
 ·exact {
   env:=he,since:=D6.refl ..,size:=by simp;omega,defers:=rfl,base:=rfl
   tmps:=λt=>by
    unfold A1B
    by_cases ht:t<args.length
    ·have h1:(vs++Array.replicate (fn.ntmps-vs.size) undef).getD t undef=vs[t]:=by
      simp[A27 (show t<vs.size by omega),show t<vs.size by omega]
     have h2:args.getD t .junk=args[t]:=by simp[ht]
     show VA M G bs (args.getD t .junk) ((vs++Array.replicate (fn.ntmps-vs.size) undef).getD t undef)
     rw[h1,h2]
     have:=hv t args[t] vs[t] (C3 ht) (J4 (by omega))
     generalize args[t]=c at this
     cases c with
     |tup cs=>exact this.elim
     |junk=>trivial
     |_=>exact this
    ·have:args.getD t .junk=.junk:=by simp[E8,A0p (Nat.le_of_not_lt ht)]
     rw[this]
     trivial}
 ·have fin:A0o fn.ntmps bs.length ⟨M,G,bs,w⟩ (A6U Q rs) a' w'->a'.defers=[]/\∃v,(results fn a'.tmps).run P w'=.ok v w'/\∃v',Ending.returned v=.returned v'/\∃M' G' r os',C0 M' G' os' w'/\D6 M G bs w M' G' os' w'/\VA M' G' os' r v'/\Q r os':=by
   rintro⟨M',G',os',ρ',hR,hk⟩
   obtain⟨v,h1,h2⟩:=D6x hR hrs hk
   exact⟨hR.defers,v,h1,v,rfl,h2⟩
  cases e with
  |normal=>exact fin hp
  |ret=>exact fin hp
  |exit id=>obtain⟨_,_,_,_,_,hk⟩:=hp;exact hk.elim
  |_=>exact hp.elim
end
theorem B2.goO{P:Program}(hm:P.follows .mixedOrders=true){f n:Nat}{ic:IC}{rs:List RV}(h:B2 P f n ic rs){args:List AV}{bs:List AO}(hargs:Nat.ble args.length n=true){Q:AV->List AO->Prop}
  (hw:Go (xI P n bs.length ic (A6S Q rs) (λ_ _ _=>False) (A6S Q rs) (A15 0 args) bs)):B0 P f args bs Q:=by
 obtain⟨fn,h1,h2,h3,h4,h5⟩:=h
 obtain⟨code,hb,hc⟩:=Z2.1 h4
 subst h2
 refine D4z hm h1 (by simpa using h3) hb hc h5 (P5 hargs) ?_
 rw[B1Q]
 exact A46 (K:=⟨A6S Q rs,λ_ _ _=>False,A6S Q rs⟩) ⟨λL os h=>C1w h,λ_ _ _ h=>h,λL os h=>C1w h⟩ hw
theorem B0.alone{P:Program}{g:FuncId}{args:List AV}{Q:AV->List AO->Prop}(h:B0 P g args [] Q)(hd:∀a∈args,∃x,a=.d x)(os:List AO) :
  B0 P g args os (λr os'=>∃r0 os0,Q r0 os0/\r=mA (rn [] os.length) r0/\os'=os++os0.map (mO (rn [] os.length))):=by
 have:=B0.frame (K:=λr os'=>∃r0 os0,Q r0 os0/\r=mA (rn [] os.length) r0/\os'=os++os0.map (mO (rn [] os.length))) h [] os rfl (by simp) (λi x hx=>by simp at hx)
  (λa ha=>by obtain⟨x,rfl⟩:=hd a ha;trivial) (λx hx=>by simp at hx) (λr bs' hq=>⟨r,bs',hq,rfl,rfl⟩)
 have e:args.map (mG (rn [] os.length))=args:=by
  rw[T9 (g:=id) (λa ha=>by obtain⟨x,rfl⟩:=hd a ha;rfl),A02]
 rwa [e] at this
end Go.Bi
end
section
namespace Go.Proofs
open Go.Bi
abbrev eI(n:Int):D:=.int .i64 n
def A0(l:List Int):List (List D):=l.map λr=>[eI r]
theorem K5{l:List Int}{i:Nat}{r:Int}(h:l[i]?=some r):(A0 l)[i]?=some [eI r]:=by simp[A0,h]
theorem B4(l:List Int):(A0 l).length=l.length:=by simp[A0]
theorem C9(l:List Int):∀e∈A0 l,e.length=1:=by
 intro e he
 obtain⟨x,_,rfl⟩:=D9.1 he
 rfl
theorem A3z{α:Type}{f:α->Bool}{l:List α}{i:Nat}{x:α}(h:l[i]?=some x):(l.take (i+1)).all f=((l.take i).all f&&f x):=by
 simp only[P1,h,List.all_append,Option.toList,i6,List.all_nil,Bool.and_true]
theorem A4p{α:Type}{f:α->Bool}{l:List α}{i:Nat}{x:α}(h:l[i]?=some x)(hx:f x=false):l.all f=false:=by
 rw[Bool.eq_false_iff]
 intro ha
 rw[O3.1 ha x (B9 h)] at hx
 cases hx
def valid(a b:Int):Bool:=decide (0<=a/\a<b/\b<=1099511627776)
set_option maxRecDepth 100000 in
abbrev A0y(a b:List UInt8):Int:=Lib.compareBytes a b
def A2R(a b:Int):Int:=if a<b then -1 else if b<a then 1 else 0
def or3(a b c:Int):Int:=if a≠0 then a else if b≠0 then b else c
structure Vl where
 k:Int
 n:Int
 s:List UInt8
 deriving DecidableEq
abbrev Vl.ds(v:Vl):List D:=[eI v.k,eI v.n,.str v.s]
abbrev eV(v:Vl):AV:=.agg [.d (eI v.k),.d (eI v.n),.d (.str v.s)]
def F4:Vl:=⟨0,0,[]⟩
def prC(c:UInt8):Bool:=decide (32<=c.toNat/\c.toNat<=126)
def W2(s:List UInt8):Bool:=s.all prC
def K7(v:Vl):Bool:=
 if v.k=0 then decide (v.n=0/\v.s=[])
 else if v.k=1 then decide (v.s=[]/\-1125899906842624<=v.n/\v.n<=1125899906842624)
 else if v.k=2 then decide (v.n=0/\v.s.length<=200)&&W2 v.s
 else if v.k=3 then decide (v.s=[]/\(v.n=0\/v.n=1)) else false
theorem B39(s:List UInt8)(hs:s.length<=4611686018427387904):Pure Tryz.prog B0B [.d (.str s)] (.d (.bool (W2 s))):=by
 refine C6M.go A4 rfl ?_
 repeat' first|refine st ?_|((with_reducible apply C4);conv=>whnf)|refine⟨λ_=>?_,λ_=>?_⟩|fail
 refine F2 A4 C9u C8m (λ(i:Nat)=>[.d (eI i)]) (λi=>[]) (λi=>i<=s.length/\(s.take i).all prC=true) (λi=>s.length-i) 0 rfl rfl rfl rfl (λ_ _=>⟨rfl,rfl⟩) rfl ⟨by omega,rfl⟩ ?_
 repeat' first|refine st ?_|((with_reducible apply C4);conv=>whnf)|refine⟨λ_=>?_,λ_=>?_⟩|fail
 intro i ⟨h1,h2⟩
 cases hx:s[i]? with
 |some c=>
  have hlt:=(A7.1 hx).1
  have hg:s.getD ((i:Int)).toNat 0=c:=by simp[E8,hx]
  repeat' first|refine st ?_|((with_reducible apply C4);conv=>whnf)|refine⟨λ_=>?_,λ_=>?_⟩|fail
  ·rename_i h
   rw[hg] at h
   rw[W2,A4p hx (decide_eq_false (by omega))]
  ·rename_i h h'
   rw[hg] at h h'
   rw[W2,A4p hx (decide_eq_false (by omega))]
  ·rename_i h h'
   rw[hg] at h h'
   refine⟨i+1,rfl,rfl,rfl,by omega,by omega,?_⟩
   rw[A3z hx,h2,prC,decide_eq_true (by omega)];rfl
 |none=>
  have hge:=C8.1 hx
  rw[J5 hge] at h2
  repeat' first|refine st ?_|((with_reducible apply C4);conv=>whnf)|refine⟨λ_=>?_,λ_=>?_⟩|fail
  rw[W2,h2]
theorem B30(s:List UInt8)(hs:s.length<=4611686018427387904):Pure Tryz.prog B6D [.d (.str s)] (.d (.bool (W2 s))):=by
 refine C57.go A4 rfl ?_
 repeat' first|refine st ?_|((with_reducible apply C4);conv=>whnf)|refine⟨λ_=>?_,λ_=>?_⟩|fail
 refine F2 A4 C8o C7g (λ(i:Nat)=>[.d (eI i)]) (λi=>[]) (λi=>i<=s.length/\(s.take i).all prC=true) (λi=>s.length-i) 0 rfl rfl rfl rfl (λ_ _=>⟨rfl,rfl⟩) rfl ⟨by omega,rfl⟩ ?_
 repeat' first|refine st ?_|((with_reducible apply C4);conv=>whnf)|refine⟨λ_=>?_,λ_=>?_⟩|fail
 intro i ⟨h1,h2⟩
 cases hx:s[i]? with
 |some c=>
  have hlt:=(A7.1 hx).1
  have hg:s.getD ((i:Int)).toNat 0=c:=by simp[E8,hx]
  repeat' first|refine st ?_|((with_reducible apply C4);conv=>whnf)|refine⟨λ_=>?_,λ_=>?_⟩|fail
  ·rename_i h
   rw[hg] at h
   rw[W2,A4p hx (decide_eq_false (by omega))]
  ·rename_i h h'
   rw[hg] at h h'
   rw[W2,A4p hx (decide_eq_false (by omega))]
  ·rename_i h h'
   rw[hg] at h h'
   refine⟨i+1,rfl,rfl,rfl,by omega,by omega,?_⟩
   rw[A3z hx,h2,prC,decide_eq_true (by omega)];rfl
 |none=>
  have hge:=C8.1 hx
  rw[J5 hge] at h2
  repeat' first|refine st ?_|((with_reducible apply C4);conv=>whnf)|refine⟨λ_=>?_,λ_=>?_⟩|fail
  rw[W2,h2]
theorem A5m(v:Vl)(hs:v.s.length<=4611686018427387904):Pure Tryz.prog A86 [eV v] (.d (.bool (K7 v))):=by
 refine C6K.go A4 rfl ?_
 have hP:=B39 v.s hs
 repeat' first|refine st ?_|((with_reducible apply C4);conv=>whnf)|refine⟨λ_=>?_,λ_=>?_⟩|fail
 all_goals (simp_all[K7]<;>omega)
theorem A5j(v:Vl)(hs:v.s.length<=4611686018427387904):Pure Tryz.prog A7M [eV v] (.d (.bool (K7 v))):=by
 refine C5a.go A4 rfl ?_
 have hP:=B30 v.s hs
 repeat' first|refine st ?_|((with_reducible apply C4);conv=>whnf)|refine⟨λ_=>?_,λ_=>?_⟩|fail
 all_goals (simp_all[K7]<;>omega)
theorem A4a:Pure Tryz.prog A2c [] (eV F4):=by
 refine C6I.go A4 rfl ?_
 repeat' first|refine st ?_|((with_reducible apply C4);conv=>whnf)|refine⟨λ_=>?_,λ_=>?_⟩|fail
 all_goals rfl
theorem A0n:Pure Tryz.prog A3u [] (eV F4):=by
 refine C56.go A4 rfl ?_
 repeat' first|refine st ?_|((with_reducible apply C4);conv=>whnf)|refine⟨λ_=>?_,λ_=>?_⟩|fail
 all_goals rfl
def z7(b:Bool):Vl:=⟨3,if b then 1 else 0,[]⟩
theorem C4T(b:Bool):Pure Tryz.prog A5N [.d (.bool b)] (eV (z7 b)):=by
 refine C6H.go A4 rfl ?_
 repeat' first|refine st ?_|((with_reducible apply C4);conv=>whnf)|refine⟨λ_=>?_,λ_=>?_⟩|fail
 all_goals simp_all[z7]
theorem A7r(b:Bool):Pure Tryz.prog A4j [.d (.bool b)] (eV (z7 b)):=by
 refine C53.go A4 rfl ?_
 repeat' first|refine st ?_|((with_reducible apply C4);conv=>whnf)|refine⟨λ_=>?_,λ_=>?_⟩|fail
 all_goals simp_all[z7]
def z8(v:Vl):Vl:=if K7 v then v else F4
theorem C4X(v:Vl)(hs:v.s.length<=4611686018427387904):Pure Tryz.prog B7X [eV v] (eV (z8 v)):=by
 refine C6L.go A4 rfl ?_
 have hV:=A5m v hs
 repeat' first|refine st ?_|((with_reducible apply C4);conv=>whnf)|((with_reducible first|apply x9|apply x8);(·exact A4a))|refine⟨λ_=>?_,λ_=>?_⟩|fail
 all_goals simp_all[z8]
theorem B32(v:Vl)(hs:v.s.length<=4611686018427387904):Pure Tryz.prog B6F [eV v] (eV (z8 v)):=by
 refine C5c.go A4 rfl ?_
 have hV:=A5j v hs
 repeat' first|refine st ?_|((with_reducible apply C4);conv=>whnf)|((with_reducible first|apply x9|apply x8);(·exact A0n))|refine⟨λ_=>?_,λ_=>?_⟩|fail
 all_goals simp_all[z8]
def A7c(n:Int):Vl:=z8 ⟨1,n,[]⟩
def A55(s:List UInt8):Vl:=z8 ⟨2,0,s⟩
theorem B2Z(n:Int):Pure Tryz.prog A9V [.d (eI n)] (eV (A7c n)):=by
 refine C55.go A4 rfl ?_
 have hV:=B32 ⟨1,n,[]⟩ (by simp)
 repeat' first|refine st ?_|((with_reducible apply C4);conv=>whnf)|refine⟨λ_=>?_,λ_=>?_⟩|fail
 all_goals rfl
theorem C4W(s:List UInt8)(hs:s.length<=4611686018427387904):Pure Tryz.prog B7W [.d (.str s)] (eV (A55 s)):=by
 refine C6J.go A4 rfl ?_
 have hV:=C4X ⟨2,0,s⟩ hs
 repeat' first|refine st ?_|((with_reducible apply C4);conv=>whnf)|refine⟨λ_=>?_,λ_=>?_⟩|fail
 all_goals rfl
theorem B31(s:List UInt8)(hs:s.length<=4611686018427387904):Pure Tryz.prog A9Y [.d (.str s)] (eV (A55 s)):=by
 refine C59.go A4 rfl ?_
 have hV:=B32 ⟨2,0,s⟩ hs
 repeat' first|refine st ?_|((with_reducible apply C4);conv=>whnf)|refine⟨λ_=>?_,λ_=>?_⟩|fail
 all_goals rfl
end Go.Proofs
end
section
set_option maxRecDepth 100000
set_option maxHeartbeats 8000000
namespace Go.Proofs
open Go.Bi
def A23:List (List UInt8):=[[97,100,100],[97,102,116,101,114],[97,108,108],[97,108,116,101,114],[97,110,100],[97,115],[98,101,102,111,114,101],[98,101,103,105,110],[98,101,116,119,101,101,110],[98,111,111,108],[98,121],[99,104,101,99,107],[99,111,97,108,101,115,99,101],[99,111,109,109,105,116],[99,111,110,116,97,105,110,115],[99,111,117,110,116],[99,114,101,97,116,101],[100,101,102,97,117,108,116],[100,101,108,101,116,101],[100,101,115,99],[100,105,115,116,105,110,99,116],[100,114,111,112],[100,117,114,105,110,103],[101,113,117,97,108,115],[101,120,99,101,112,116],[102,97,108,115,101],[102,105,110,105,115,104,101,100,98,121],[102,105,110,105,115,104,101,115],[102,111,114,101,105,103,110],[102,111,114,101,118,101,114],[102,114,111,109],[103,114,111,117,112],[104,111,108,100],[105,102],[105,110,115,101,114,116],[105,110,116],[105,110,116,101,114,115,101,99,116],[105,110,116,111],[105,115],[106,111,105,110],[107,101,121],[108,101,102,116],[108,101,110,103,116,104],[108,105,109,105,116],[109,97,120],[109,101,101,116,115],[109,101,116,98,121],[109,105,110],[110,111,110,115,101,113,117,101,110,99,101,100],[110,111,116],[110,111,119],[110,117,108,108],[111,102],[111,110],[111,114],[111,114,100,101,114],[111,118,101,114,108,97,112,112,101,100,98,121],[111,118,101,114,108,97,112,115],[112,114,105,109,97,114,121],[112,114,117,110,101],[114,101,102,101,114,101,110,99,101,115],[114,101,108,101,97,115,101],[114,101,110,97,109,101],[114,101,116,97,105,110],[114,111,108,108,98,97,99,107],[115,101,108,101,99,116],[115,101,113,117,101,110,99,101,100],[115,101,116],[115,116,97,114,116,101,100,98,121],[115,116,97,114,116,115],[115,117,109],[115,121,115,116,101,109],[115,121,115,116,101,109,102,114,111,109],[115,121,115,116,101,109,116,111],[116,97,98,108,101],[116,101,120,116],[116,111],[116,114,117,101],[116,120],[117,110,100,101,114],[117,110,105,111,110],[117,112,100,97,116,101],[118,97,108,105,100],[118,97,108,105,100,102,114,111,109],[118,97,108,105,100,116,111],[118,97,108,117,101,115],[119,104,101,114,101]]
def eSs(l:List (List UInt8)):List (List D):=l.map λs=>[.str s]
theorem D3Z(l:List (List UInt8)):(eSs l).length=l.length:=by simp[eSs]
theorem D3Y{l:List (List UInt8)}{i:Nat}{s:List UInt8}(h:l[i]?=some s):(eSs l)[i]?=some [.str s]:=by simp[eSs,h]
theorem D40(l:List (List UInt8)):∀e∈eSs l,e.length=1:=by
 intro e he
 obtain⟨x,_,rfl⟩:=D9.1 he
 rfl
theorem C4E(s:List UInt8):Pure Tryz.prog B7K [.d (.str s)] (.d (.bool (decide (s∈A23)))):=by
 refine C6y.go A4 rfl ?_
 obtain⟨b,hb⟩:∃b,b=decide (s∈A23):=⟨_,rfl⟩
 rw[<- hb]
 repeat' first|refine st ?_|refine⟨λ_=>?_,λ_=>?_⟩|fail
 all_goals first
  |(subst_vars;rfl)
  |(rw[hb,decide_eq_false];simp[A23, *])
theorem C41:Pure Tryz.prog B6R [] (.d (.sl (eSs A23))):=by
 refine C5w.go A4 rfl ?_
 repeat' first|refine st ?_|refine⟨λ_=>?_,λ_=>?_⟩|fail
 all_goals rfl
theorem C45(l:List (List UInt8))(hl:l.length<=1048576)(d:D)(hd:B3 d (eSs l))(s:List UInt8):Pure Tryz.prog B6W [.d d,.d (.str s)] (.d (.bool (decide (s∈l)))):=by
 refine C5B.go A4 rfl ?_
 have h1:=D3Z l
 have hm:=D40 l
 obtain⟨b,hb⟩:∃b,b=decide (s∈l):=⟨_,rfl⟩
 rw[<- hb]
 repeat' first|refine st ?_|refine⟨λ_=>?_,λ_=>?_⟩|fail
 refine F2 A4 C8L C7D (λ(i:Nat)=>[.d (eI i)]) (λi=>[]) (λi=>i<=l.length/\¬s∈l.take i) (λi=>l.length-i) 0 rfl rfl rfl rfl (λ_ _=>⟨rfl,rfl⟩) rfl ⟨by omega,by simp⟩ ?_
 repeat' first|refine st ?_|refine⟨λ_=>?_,λ_=>?_⟩|fail
 intro i ⟨h2,h3⟩
 cases hx:l[i]? with
 |some x=>
  have hlt:=(A7.1 hx).1
  have hg:=D3Y hx
  by_cases h:x=s
  ·rw[hb,decide_eq_true (h▸B9 hx)]
   repeat' first|refine st ?_|refine⟨λ_=>?_,λ_=>?_⟩|fail
   all_goals rfl
  ·repeat' first|refine st ?_|refine⟨λ_=>?_,λ_=>?_⟩|fail
   refine⟨i+1,rfl,rfl,rfl,by omega,by omega,?_⟩
   rw[P1,hx]
   intro hmem
   rcases P4.1 hmem with hm2|hm2
   ·exact h3 hm2
   ·simp at hm2;exact h hm2.symm
 |none=>
  have hge:=C8.1 hx
  rw[J5 hge] at h3
  rw[hb,decide_eq_false h3]
  repeat' first|refine st ?_|refine⟨λ_=>?_,λ_=>?_⟩|fail
  all_goals rfl
def n6(p:UInt8×Nat):Bool:=decide (97<=p.1.toNat/\p.1.toNat<=122)||decide (p.1.toNat=95)||(decide (48<=p.1.toNat/\p.1.toNat<=57)&&decide (p.2≠0))
def okS(s:List UInt8):Bool:=s.zipIdx.all n6
def L5(s:List UInt8):Bool:=okS s&&decide (1<=s.length/\s.length<=24)&&!decide (s∈A23)
theorem A9s{s:List UInt8}{i:Nat}{c:UInt8}(h:s[i]?=some c):s.zipIdx[i]?=some (c,i):=by
 rw[List.getElem?_zipIdx,h];simp
theorem D3B{s:List UInt8}{p:Nat}{c:UInt8}(h:s[p]?=some c)(hc:c.toNat<128):Utf8.decode ⟨⟨s⟩⟩ p=(c.toNat,1):=by
 have e:(ByteArray.mk ⟨s⟩).get! (p+0)=c:=by
  obtain⟨hlt,he⟩:=A7.1 h
  show(⟨s⟩:Array UInt8)[p]! = c
  rw[getElem!_pos (⟨s⟩:Array UInt8) p hlt]
  exact he
 unfold Utf8.decode
 simp only[e]
 rw[if_pos hc]
theorem D3A{s:List UInt8}{p:Nat}{c:UInt8}(h:s[p]?=some c)(hc:¬c.toNat<128):128<=(Utf8.decode ⟨⟨s⟩⟩ p).1/\(Utf8.decode ⟨⟨s⟩⟩ p).1<=1114111:=by
 have e:(ByteArray.mk ⟨s⟩).get! (p+0)=c:=by
  obtain⟨hlt,he⟩:=A7.1 h
  show(⟨s⟩:Array UInt8)[p]! = c
  rw[getElem!_pos (⟨s⟩:Array UInt8) p hlt]
  exact he
 unfold Utf8.decode
 simp only[e]
 rw[if_neg hc]
 have hv:∀n:Nat,Utf8.valid n=true->n<=1114111:=λn h=>by
  simp only[Utf8.valid,A3i,L6,decide_eq_true_eq] at h
  omega
 repeat' split
 all_goals simp only[Utf8.runeError]
 all_goals first|omega|(rename_i h1;simp only[L6,decide_eq_true_eq] at h1;exact⟨by omega,hv _ h1.2⟩)|skip
end Go.Proofs
end
section
namespace Go.Proofs
open Go.Bi
attribute [local irreducible] Go.Utf8.decode
theorem A38(c:UInt8)(p:Nat):n6 (c,p)=true↔(97<=c.toNat/\c.toNat<=122)\/c.toNat=95\/(48<=c.toNat/\c.toNat<=57/\p≠0):=by
 simp only[n6,A3i,L6,decide_eq_true_eq]
 omega
theorem A6J{s:List UInt8}{p:Nat}{c:UInt8}(h:s[p]?=some c)(hk:n6 (c,p)=false):L5 s=false:=by
 have:okS s=false:=A4p (A9s h) hk
 rw[L5,this];rfl
theorem A5k(s:List UInt8)(hs:s.length<=1048576):Pure Tryz.prog B7H [.d (.str s)] (.d (.bool (L5 s))):=by
 refine C6r.go A4 rfl ?_
 have hR:=C4E s
 obtain⟨b,hb⟩:∃b,b=L5 s:=⟨_,rfl⟩
 rw[<- hb]
 obtain⟨r,hr⟩:∃r,r=decide (s∈A23):=⟨_,rfl⟩
 rw[<- hr] at hR
 repeat' first|refine st ?_|refine⟨λ_=>?_,λ_=>?_⟩|fail
 refine F2 A4 C9k C8c (λ(p:Nat)=>[]) (λp=>[.iter s p]) (λp=>p<=s.length/\(s.zipIdx.take p).all n6=true) (λp=>s.length-p) 0 rfl rfl rfl rfl (λ_ _=>⟨rfl,rfl⟩) rfl ⟨by omega,by simp⟩ ?_
 repeat' first|refine st ?_|refine⟨λ_=>?_,λ_=>?_⟩|fail
 intro p ⟨h1,h2⟩
 cases hx:s[p]? with
 |some c=>
  have hlt:=(A7.1 hx).1
  have hz:=A9s hx
  by_cases hc:c.toNat<128
  ·have e:=D3B hx hc
   have e1:(Utf8.decode ⟨⟨s⟩⟩ p).1=c.toNat:=by rw[e]
   have e2:(Utf8.decode ⟨⟨s⟩⟩ p).2=1:=by rw[e]
   cases hk:n6 (c,p) with
   |true=>
    have hs2:=A3z (f:=n6) hz
    rw[h2,hk] at hs2
    have hk2:=(A38 c p).1 hk
    have hfin:∀q,q=p+(Utf8.decode ⟨⟨s⟩⟩ p).2->q<=s.length/\(s.zipIdx.take q).all n6=true/\s.length-q<s.length-p:=λq hq=>by
     rw[e2] at hq
     subst hq
     exact⟨by omega,hs2,by omega⟩
    clear hs2 hz e hk
    rcases hk2 with ⟨k1,k2⟩|k1|⟨k1,k2,k3⟩
    ·repeat' first|refine st ?_|refine⟨λ_=>?_,λ_=>?_⟩|fail
     obtain⟨f1,f2,f3⟩:=hfin _ rfl
     exact⟨_,rfl,rfl,rfl,f3,f1,f2⟩
    ·repeat' first|refine st ?_|refine⟨λ_=>?_,λ_=>?_⟩|fail
     obtain⟨f1,f2,f3⟩:=hfin _ rfl
     exact⟨_,rfl,rfl,rfl,f3,f1,f2⟩
    ·repeat' first|refine st ?_|refine⟨λ_=>?_,λ_=>?_⟩|fail
     obtain⟨f1,f2,f3⟩:=hfin _ rfl
     exact⟨_,rfl,rfl,rfl,f3,f1,f2⟩
   |false=>
    have hbf:b=false:=hb.trans (A6J hx hk)
    have hk2:¬_:=λh=>Bool.false_ne_true (hk▸(A38 c p).2 h)
    rw[hbf]
    clear hz e hk
    repeat' first|refine st ?_|refine⟨λ_=>?_,λ_=>?_⟩|fail
    all_goals first|rfl|(exfalso;omega)
  ·have e:=D3A hx hc
   have hk:n6 (c,p)=false:=by
    rw[Bool.eq_false_iff]
    intro h
    have:=(A38 c p).1 h
    omega
   have hbf:b=false:=hb.trans (A6J hx hk)
   rw[hbf]
   repeat' first|refine st ?_|refine⟨λ_=>?_,λ_=>?_⟩|fail
   all_goals first|rfl|(exfalso;omega)
 |none=>
  have hge:=C8.1 hx
  rw[J5 (by simpa using hge)] at h2
  have hb2:b=(decide (1<=s.length/\s.length<=24)&&!r):=by rw[hb,L5,okS,h2,hr];simp
  clear hb hr
  by_cases h:1<=s.length/\s.length<=24
  ·rw[decide_eq_true h] at hb2
   obtain⟨g1,g2⟩:=h
   rw[hb2]
   repeat' first|refine st ?_|refine⟨λ_=>?_,λ_=>?_⟩|fail
   all_goals first|rfl|(exfalso;omega)
  ·rw[decide_eq_false h] at hb2
   rw[hb2]
   repeat' first|refine st ?_|refine⟨λ_=>?_,λ_=>?_⟩|fail
   all_goals first|rfl|(exfalso;omega)
theorem A5i(s:List UInt8)(hs:s.length<=1048576):Pure Tryz.prog B07 [.d (.str s)] (.d (.bool (L5 s))):=by
 refine C5u.go A4 rfl ?_
 have hR:=C45 A23 (by decide) (.sl (eSs A23)) J7 s
 have hW:=C41
 obtain⟨ew,hew⟩:∃ew,ew=eSs A23:=⟨_,rfl⟩
 rw[<- hew] at hR hW
 obtain⟨b,hb⟩:∃b,b=L5 s:=⟨_,rfl⟩
 rw[<- hb]
 obtain⟨r,hr⟩:∃r,r=decide (s∈A23):=⟨_,rfl⟩
 rw[<- hr] at hR
 by_cases hlen:1<=s.length/\s.length<=24
 rotate_left
 ·have hbf:b=false:=by rw[hb,L5,decide_eq_false hlen];simp
  rw[hbf]
  by_cases h0:s=[]
  ·subst h0
   repeat' first|refine st ?_|refine⟨λ_=>?_,λ_=>?_⟩|fail
   all_goals rfl
  ·have h1:¬s.length=0:=λh=>h0 (A2K.1 h)
   have h24:24<s.length:=by omega
   repeat' first|refine st ?_|refine⟨λ_=>?_,λ_=>?_⟩|fail
   all_goals rfl
 obtain⟨g1,g2⟩:=hlen
 have g0:¬s=[]:=λh=>by subst h;simp at g1
 obtain⟨c0,hc0⟩:∃c,s[0]?=some c:=⟨_,C3 (by omega)⟩
 have hg0:s.getD (0:Int).toNat 0=c0:=by simp[E8,hc0]
 by_cases hd:48<=c0.toNat/\c0.toNat<=57
 ·have hk:n6 (c0,0)=false:=by
   rw[Bool.eq_false_iff]
   intro h
   have:=(A38 c0 0).1 h
   omega
  have hbf:b=false:=hb.trans (A6J hc0 hk)
  rw[hbf]
  rw[<- hg0] at hd
  obtain⟨d1,d2⟩:=hd
  repeat' first|refine st ?_|refine⟨λ_=>?_,λ_=>?_⟩|fail
  all_goals first|rfl|(exfalso;omega)
 rcases(show c0.toNat<48\/57<c0.toNat by omega) with hd'|hd'
 all_goals rw[<- hg0] at hd'
 ·repeat' first|refine st ?_|refine⟨λ_=>?_,λ_=>?_⟩|fail
  refine F2 A4 B6q B6d (λ(p:Nat)=>[.d (eI p)]) (λp=>[]) (λp=>p<=s.length/\(s.zipIdx.take p).all n6=true) (λp=>s.length-p) 0 rfl rfl rfl rfl (λ_ _=>⟨rfl,rfl⟩) rfl ⟨by omega,by simp⟩ ?_
  repeat' first|refine st ?_|refine⟨λ_=>?_,λ_=>?_⟩|fail
  intro p ⟨h1,h2⟩
  cases hx:s[p]? with
  |some c=>
   have hlt:=(A7.1 hx).1
   have hg:s.getD ((p:Nat):Int).toNat 0=c:=by simp[E8,hx]
   have hz:=A9s hx
   have h0:p=0->c=c0:=λh=>by
    subst h
    rw[hx] at hc0
    exact A1z hc0
   have h0:p=0->c.toNat=c0.toNat:=λh=>by rw[h0 h]
   cases hk:n6 (c,p) with
   |true=>
    have hs2:=A3z (f:=n6) hz
    rw[h2,hk] at hs2
    have hk2:=(A38 c p).1 hk
    rw[<- hg] at hk2
    clear hz hk
    rcases hk2 with ⟨k1,k2⟩|k1|⟨k1,k2,k3⟩
    ·repeat' first|refine st ?_|refine⟨λ_=>?_,λ_=>?_⟩|fail
     exact⟨p+1,rfl,rfl,rfl,by omega,by omega,hs2⟩
    ·repeat' first|refine st ?_|refine⟨λ_=>?_,λ_=>?_⟩|fail
     exact⟨p+1,rfl,rfl,rfl,by omega,by omega,hs2⟩
    ·repeat' first|refine st ?_|refine⟨λ_=>?_,λ_=>?_⟩|fail
     exact⟨p+1,rfl,rfl,rfl,by omega,by omega,hs2⟩
   |false=>
    have hbf:b=false:=hb.trans (A6J hx hk)
    have hk2:¬_:=λh=>Bool.false_ne_true (hk▸(A38 c p).2 h)
    rw[hbf]
    rw[<- hg] at hk2 h0
    rw[<- hg0] at h0
    clear hz hk
    repeat' first|refine st ?_|refine⟨λ_=>?_,λ_=>?_⟩|fail
    all_goals first|rfl|(exfalso;omega)
  |none=>
   have hge:=C8.1 hx
   rw[J5 (by simpa using hge)] at h2
   have hb2:b=!r:=by rw[hb,L5,okS,h2,hr,decide_eq_true (show 1<=s.length/\s.length<=24 from⟨g1,g2⟩)];simp
   rw[hb2]
   repeat' first|refine st ?_|refine⟨λ_=>?_,λ_=>?_⟩|fail
   all_goals first|rfl|(exfalso;omega)
 ·repeat' first|refine st ?_|refine⟨λ_=>?_,λ_=>?_⟩|fail
  refine F2 A4 B6q B6d (λ(p:Nat)=>[.d (eI p)]) (λp=>[]) (λp=>p<=s.length/\(s.zipIdx.take p).all n6=true) (λp=>s.length-p) 0 rfl rfl rfl rfl (λ_ _=>⟨rfl,rfl⟩) rfl ⟨by omega,by simp⟩ ?_
  repeat' first|refine st ?_|refine⟨λ_=>?_,λ_=>?_⟩|fail
  intro p ⟨h1,h2⟩
  cases hx:s[p]? with
  |some c=>
   have hlt:=(A7.1 hx).1
   have hg:s.getD ((p:Nat):Int).toNat 0=c:=by simp[E8,hx]
   have hz:=A9s hx
   have h0:p=0->c=c0:=λh=>by
    subst h
    rw[hx] at hc0
    exact A1z hc0
   have h0:p=0->c.toNat=c0.toNat:=λh=>by rw[h0 h]
   cases hk:n6 (c,p) with
   |true=>
    have hs2:=A3z (f:=n6) hz
    rw[h2,hk] at hs2
    have hk2:=(A38 c p).1 hk
    rw[<- hg] at hk2
    clear hz hk
    rcases hk2 with ⟨k1,k2⟩|k1|⟨k1,k2,k3⟩
    ·repeat' first|refine st ?_|refine⟨λ_=>?_,λ_=>?_⟩|fail
     exact⟨p+1,rfl,rfl,rfl,by omega,by omega,hs2⟩
    ·repeat' first|refine st ?_|refine⟨λ_=>?_,λ_=>?_⟩|fail
     exact⟨p+1,rfl,rfl,rfl,by omega,by omega,hs2⟩
    ·repeat' first|refine st ?_|refine⟨λ_=>?_,λ_=>?_⟩|fail
     exact⟨p+1,rfl,rfl,rfl,by omega,by omega,hs2⟩
   |false=>
    have hbf:b=false:=hb.trans (A6J hx hk)
    have hk2:¬_:=λh=>Bool.false_ne_true (hk▸(A38 c p).2 h)
    rw[hbf]
    rw[<- hg] at hk2 h0
    rw[<- hg0] at h0
    clear hz hk
    repeat' first|refine st ?_|refine⟨λ_=>?_,λ_=>?_⟩|fail
    all_goals first|rfl|(exfalso;omega)
  |none=>
   have hge:=C8.1 hx
   rw[J5 (by simpa using hge)] at h2
   have hb2:b=!r:=by rw[hb,L5,okS,h2,hr,decide_eq_true (show 1<=s.length/\s.length<=24 from⟨g1,g2⟩)];simp
   rw[hb2]
   repeat' first|refine st ?_|refine⟨λ_=>?_,λ_=>?_⟩|fail
   all_goals first|rfl|(exfalso;omega)
end Go.Proofs
end
section
namespace Go.Proofs
open Go.Bi
theorem A69{a b:Int}:A2R a b=0↔a=b:=by unfold A2R;split<;>(try split)<;>omega
theorem B0Z:∀(a b:List UInt8),Op.bytesLess a b=decide (A0y a b<0)/\Op.bytesLess b a=decide (0<A0y a b)/\(A0y a b=0↔a=b)/\(A0y a b=-1\/A0y a b=0\/A0y a b=1)
 |[],[]=>by simp[Op.bytesLess,A0y,Lib.compareBytes]
 |[],_::_=>by simp[Op.bytesLess,A0y,Lib.compareBytes]
 |_::_,[]=>by simp[Op.bytesLess,A0y,Lib.compareBytes]
 |x::a,y::b=>by
  obtain⟨h1,h2,h3,h4⟩:=B0Z a b
  simp only[Op.bytesLess,A0y,Lib.compareBytes] at *
  by_cases hxy:x<y
  ·have h5:¬y<x:=by intro h;exact absurd (UInt8.lt_trans hxy h) (UInt8.lt_irrefl x)
   have h6:x≠y:=by intro h;rw[h] at hxy;exact UInt8.lt_irrefl y hxy
   simp[hxy,h5,h6,o5 h6]
  ·by_cases hyx:y<x
   ·have h6:x≠y:=by intro h;rw[h] at hyx;exact UInt8.lt_irrefl y hyx
    simp[hxy,hyx,h6,o5 h6]
   ·have h6:x=y:=UInt8.le_antisymm (UInt8.not_lt.1 hyx) (UInt8.not_lt.1 hxy)
    subst h6
    simp only[UInt8.lt_irrefl,decide_false,Bool.false_or,beq_self_eq_true,Y9,if_false,h1,h2,List.cons.injEq,true_and]
    exact⟨h3,h4⟩
def A54(a b:Vl):Int:=or3 (A2R a.k b.k) (A2R a.n b.n) (A0y a.s b.s)
def sgn(l g:Bool):Int:=if l then -1 else if g then 1 else 0
theorem C4u(l g:Bool):Pure Tryz.prog B6E [.d (.bool l),.d (.bool g)] (.d (eI (sgn l g))):=by
 refine C5b.go A4 rfl ?_
 repeat' first|refine st ?_|refine⟨λ_=>?_,λ_=>?_⟩|fail
 all_goals simp_all[sgn]
theorem C4o(a b:Vl):Pure Tryz.prog A9U [eV a,eV b] (.d (eI (A54 a b))):=by
 refine C54.go A4 rfl ?_
 repeat' first|refine st ?_|((with_reducible first|apply x9|apply x8);(·exact C4u _ _))|refine⟨λ_=>?_,λ_=>?_⟩|fail
 ·rename_i h1 h2
  have e1:=A69.2 h1
  have e2:=A69.2 h2
  obtain⟨h3,h4,h5,h6⟩:=B0Z a.s b.s
  rw[A54,or3,e1,e2]
  simp only[h3,h4,sgn,decide_eq_true_eq]
  congr 2
  rcases h6 with h|h|h
  ·rw[h];rfl
  ·rw[h,decide_eq_true (h5.1 h)];rfl
  ·have hne:decide (a.s=b.s)=false:=decide_eq_false (λe=>by rw[h5.2 e] at h;cases h)
   rw[h,hne];rfl
 ·rename_i h1 h2
  have e1:=A69.2 h1
  rw[A54,or3,e1,if_neg (by simp),if_pos (λe=>h2 (A69.1 e)),sgn,A2R]
  simp
 ·rename_i h1
  rw[A54,or3,if_pos (λe=>h1 (A69.1 e)),sgn,A2R]
  simp
theorem D80{v w:Vl}:v=w↔(v.k=w.k/\v.n=w.n/\v.s=w.s):=by cases v;cases w;simp
def B1(l:List Vl):List (List D):=l.map Vl.ds
theorem U9(l:List Vl):(B1 l).length=l.length:=by simp[B1]
theorem A3K{l:List Vl}{i:Nat}{v:Vl}(h:l[i]?=some v):(B1 l)[i]?=some v.ds:=by simp[B1,h]
theorem x4(l:List Vl):∀e∈B1 l,e.length=3:=by
 intro e he
 obtain⟨x,_,rfl⟩:=D9.1 he
 rfl
def vAt(l:List Vl)(i:Int):Vl:=if i<0\/(l.length:Int)<=i then F4 else l.getD i.toNat F4
structure Co where
 nm:List UInt8
 k:Int
 nl:Bool
abbrev Co.ds(c:Co):List D:=[.str c.nm,eI c.k,.bool c.nl]
def A9(l:List Co):List (List D):=l.map Co.ds
theorem F3(l:List Co):(A9 l).length=l.length:=by simp[A9]
theorem L4{l:List Co}{i:Nat}{c:Co}(h:l[i]?=some c):(A9 l)[i]?=some c.ds:=by simp[A9,h]
theorem H8(l:List Co):∀e∈A9 l,e.length=3:=by
 intro e he
 obtain⟨x,_,rfl⟩:=D9.1 he
 rfl
abbrev eT(n:List UInt8)(dc dk df dx:D):AV:=.agg [.d (.str n),.d dc,.d dk,.d df,.d dx]
def kd(l:List Co):List Int:=l.map Co.k
theorem Q2(l:List Co):(kd l).length=l.length:=by simp[kd]
def Kt(l:List Co)(i:Nat):List (List D):=A0 (kd (l.take i))
theorem B63(l:List Co)(i:Nat)(h:i<=l.length):(Kt l i).length=i:=by
 unfold Kt
 rw[B4,Q2,J1]
 omega
theorem B64{l:List Co}{i:Nat}{c:Co}(h:l[i]?=some c):Kt l i++[[eI c.k]]=Kt l (i+1):=by
 unfold Kt kd
 rw[P1,h]
 simp[A0]
theorem B62{l:List Co}{i:Nat}(h:l.length<=i):Kt l i=A0 (kd l):=by
 unfold Kt
 rw[J5 h]
def kdD(l:List Co):D:=if (A0 (kd l)).isEmpty then .nil else .sl (A0 (kd l))
theorem C0f(l:List Co):B3 (kdD l) (A0 (kd l)):=by
 unfold kdD
 split
 ·rename_i h;exact .inl ⟨rfl,by simpa using h⟩
 ·exact .inr rfl
theorem B33(n:List UInt8)(l:List Co)(hl:l.length<=1048576)(dc dk df dx:D)(hc:B3 dc (A9 l)):Pure Tryz.prog B7G [eT n dc dk df dx] (.d (kdD l)):=by
 refine C6q.go A4 rfl ?_
 have h1:=F3 l
 have hm:=H8 l
 repeat' first|refine st ?_|refine⟨λ_=>?_,λ_=>?_⟩|fail
 refine A00 3 1 rfl rfl ?_
 repeat' first|refine st ?_|refine⟨λ_=>?_,λ_=>?_⟩|fail
 refine I2 A4 C9j C8b (λ(i:Nat) (w:List (List D)×Bool)=>[.arr 1 w.1.length,.d (eI i)]) (λi w=>[.cells [.d (.str n),.d dc,.d dk,.d df,.d dx],.arr w.1 1 0 w.2]) (λi w=>i<=l.length/\w.1=Kt l i/\w.2=w.1.isEmpty) (λi _=>l.length-i) 0 ([],true) rfl rfl rfl rfl (λ_ _ _=>⟨rfl,rfl⟩) rfl ⟨by omega,rfl,rfl⟩ ?_
 repeat' first|refine st ?_|refine⟨λ_=>?_,λ_=>?_⟩|fail
 intro i w ⟨h4,h5,h6⟩
 obtain⟨A,b⟩:=w
 dsimp only at h5 h6 ⊢
 have hAl:A.length=i:=by rw[h5];exact B63 l i (by omega)
 have hAm:∀e∈A,e.length=1:=by rw[h5];exact C9 _
 cases hx:l[i]? with
 |some x=>
  have hlt:=(A7.1 hx).1
  have hs:=B64 hx
  have hg:=L4 hx
  rw[<- h5] at hs
  repeat' first|refine st ?_|refine⟨λ_=>?_,λ_=>?_⟩|fail
  exact⟨i+1,(A++[[eI x.k]],false),rfl,rfl,rfl,by omega,by omega,hs,by simp⟩
 |none=>
  have hge:=C8.1 hx
  rw[B62 hge] at h5
  unfold kdD
  rw[<- h5,<- h6]
  cases b with
  |true=>
   repeat' first|refine st ?_|refine⟨λ_=>?_,λ_=>?_⟩|fail
   all_goals rfl
  |false=>
   repeat' first|refine st ?_|refine⟨λ_=>?_,λ_=>?_⟩|fail
   all_goals rfl
theorem A5h(n:List UInt8)(l:List Co)(hl:l.length<=1048576)(dc dk df dx:D)(hc:B3 dc (A9 l)):Pure Tryz.prog B6P [eT n dc dk df dx] (.d (.sl (A0 (kd l)))):=by
 refine C5t.go A4 rfl ?_
 have h1:=F3 l
 have hm:=H8 l
 repeat' first|refine st ?_|refine⟨λ_=>?_,λ_=>?_⟩|fail
 refine I2 A4 C8D C7v (λ(i:Nat) (A:List (List D))=>[.arr 1 A.length,.d (eI i)]) (λi A=>[.cells [.d (.str n),.d dc,.d dk,.d df,.d dx],.arr A 1 0 false]) (λi A=>i<=l.length/\A=Kt l i) (λi _=>l.length-i) 0 [] rfl rfl rfl rfl (λ_ _ _=>⟨rfl,rfl⟩) rfl ⟨by omega,rfl⟩ ?_
 repeat' first|refine st ?_|refine⟨λ_=>?_,λ_=>?_⟩|fail
 intro i A ⟨h4,h5⟩
 have hAl:A.length=i:=by rw[h5];exact B63 l i (by omega)
 have hAm:∀e∈A,e.length=1:=by rw[h5];exact C9 _
 cases hx:l[i]? with
 |some x=>
  have hlt:=(A7.1 hx).1
  have hs:=B64 hx
  have hg:=L4 hx
  rw[<- h5] at hs
  repeat' first|refine st ?_|refine⟨λ_=>?_,λ_=>?_⟩|fail
  exact⟨i+1,A++[[eI x.k]],rfl,rfl,rfl,by omega,by omega,hs⟩
 |none=>
  have hge:=C8.1 hx
  rw[B62 hge] at h5
  rw[<- h5]
  repeat' first|refine st ?_|refine⟨λ_=>?_,λ_=>?_⟩|fail
  all_goals rfl
def m7(nm:List UInt8):Nat->List Co->Int
 |_,[]=>-1
 |i,c::l=>if c.nm=nm then i else m7 nm (i+1) l
def D4(nm:List UInt8)(l:List Co):Int:=m7 nm 0 l
theorem B9w{nm:List UInt8}{l:List Co}{i:Nat}{c:Co}(h:l[i]?=some c):m7 nm i (l.drop i)=if c.nm=nm then (i:Int) else m7 nm (i+1) (l.drop (i+1)):=by
 obtain⟨hlt,he⟩:=A7.1 h
 rw[P7 hlt,he];rfl
theorem A3j(n:List UInt8)(l:List Co)(hl:l.length<=1048576)(dc dk df dx:D)(hc:B3 dc (A9 l))(nm:List UInt8):Pure Tryz.prog A5H [eT n dc dk df dx,.d (.str nm)] (.d (eI (D4 nm l))):=by
 refine C5s.go A4 rfl ?_
 have h1:=F3 l
 have hm:=H8 l
 repeat' first|refine st ?_|refine⟨λ_=>?_,λ_=>?_⟩|fail
 refine F2 A4 C8B C7t (λ(i:Nat)=>[.d (eI i)]) (λi=>[.cells [.d (.str n),.d dc,.d dk,.d df,.d dx]]) (λi=>i<=l.length/\D4 nm l=m7 nm i (l.drop i)) (λi=>l.length-i) 0 rfl rfl rfl rfl (λ_ _=>⟨rfl,rfl⟩) rfl ⟨by omega,rfl⟩ ?_
 repeat' first|refine st ?_|refine⟨λ_=>?_,λ_=>?_⟩|fail
 intro i ⟨h4,h5⟩
 cases hx:l[i]? with
 |some x=>
  have hlt:=(A7.1 hx).1
  have hg:=L4 hx
  rw[B9w hx] at h5
  by_cases h:x.nm=nm
  ·rw[if_pos h] at h5
   rw[h5]
   repeat' first|refine st ?_|refine⟨λ_=>?_,λ_=>?_⟩|fail
   all_goals rfl
  ·rw[if_neg h] at h5
   repeat' first|refine st ?_|refine⟨λ_=>?_,λ_=>?_⟩|fail
   exact⟨i+1,rfl,rfl,rfl,by omega,by omega,h5⟩
 |none=>
  have hge:=C8.1 hx
  rw[S1 hge] at h5
  rw[h5]
  repeat' first|refine st ?_|refine⟨λ_=>?_,λ_=>?_⟩|fail
  all_goals rfl
theorem C4y(c:Co)(nm:List UInt8):B0 Tryz.prog A80 [.agg [.d (.str c.nm),.d (eI c.k),.d (.bool c.nl)],.ptr 0 0] [.cells [.d (.str nm)]] (λr os=>r=.d (.bool (decide (c.nm=nm)))/\os=[.cells [.d (.str nm)]]):=by
 refine C6p.goX A4 rfl ?_
 repeat' first|refine st ?_|refine⟨λ_=>?_,λ_=>?_⟩|fail
 all_goals exact⟨rfl,rfl⟩
theorem C3D(l:List Co)(hl:l.length<=1048576)(dc:D)(hc:B3 dc (A9 l))(nm:List UInt8):B0 Tryz.prog B0u [.d dc,.clo A80 [0]] [.cells [.d (.str nm)]] (λr os=>r=.d (eI (D4 nm l))/\os=[.cells [.d (.str nm)]]):=by
 refine C6B.goX A4 rfl ?_
 have h1:=F3 l
 have hm:=H8 l
 repeat' first|refine st ?_|refine⟨λ_=>?_,λ_=>?_⟩|fail
 refine F2 A4 C9s C8k (λ(i:Nat)=>[.d (eI i)]) (λi=>[.cells [.d (.str nm)]]) (λi=>i<=l.length/\D4 nm l=m7 nm i (l.drop i)) (λi=>l.length-i) 0 rfl rfl rfl rfl (λ_ _=>⟨rfl,rfl⟩) rfl ⟨by omega,rfl⟩ ?_
 repeat' first|refine st ?_|refine⟨λ_=>?_,λ_=>?_⟩|fail
 intro i ⟨h4,h5⟩
 cases hx:l[i]? with
 |some x=>
  have hlt:=(A7.1 hx).1
  have hg:=L4 hx
  have hC:=C4y x nm
  rw[B9w hx] at h5
  by_cases h:x.nm=nm
  ·rw[if_pos h] at h5
   rw[h5]
   rw[decide_eq_true h] at hC
   repeat' first|refine st ?_|((with_reducible first|apply I5|apply I8);(·exact hC);(try rintro _ _ ⟨rfl,rfl⟩))|((with_reducible apply I9);(·exact hC))|refine⟨λ_=>?_,λ_=>?_⟩|fail
   all_goals exact⟨rfl,rfl⟩
  ·rw[if_neg h] at h5
   rw[decide_eq_false h] at hC
   repeat' first|refine st ?_|((with_reducible first|apply I5|apply I8);(·exact hC);(try rintro _ _ ⟨rfl,rfl⟩))|((with_reducible apply I9);(·exact hC))|refine⟨λ_=>?_,λ_=>?_⟩|fail
   exact⟨i+1,rfl,rfl,rfl,by omega,by omega,h5⟩
 |none=>
  have hge:=C8.1 hx
  rw[S1 hge] at h5
  rw[h5]
  repeat' first|refine st ?_|refine⟨λ_=>?_,λ_=>?_⟩|fail
  all_goals exact⟨rfl,rfl⟩
theorem S7(n:List UInt8)(l:List Co)(hl:l.length<=1048576)(dc dk df dx:D)(hc:B3 dc (A9 l))(nm:List UInt8):Pure Tryz.prog U7 [eT n dc dk df dx,.d (.str nm)] (.d (eI (D4 nm l))):=by
 refine C6o.go A4 rfl ?_
 have hF:B0 Tryz.prog B0u [.d dc,.clo A80 [1]] [.cells [.d (.str n),.d dc,.d dk,.d df,.d dx],.cells [.d (.str nm)]] (λr os=>r=.d (eI (D4 nm l))/\os=[.cells [.d (.str n),.d dc,.d dk,.d df,.d dx],.cells [.d (.str nm)]]):=
  B0.frame (C3D l hl dc hc nm) [1] [.cells [.d (.str n),.d dc,.d dk,.d df,.d dx],.cells [.d (.str nm)]] rfl (by decide)
   (λi o h=>by
    match i,h with
    |0,h=>cases h;rfl
    |i+1,h=>simp at h)
   (λa ha=>by simp at ha;rcases ha with rfl|rfl<;>simp[AV.bnd2,AV.bnd1])
   (λo ho=>by simp at ho;subst ho;simp[AO.bnd,AV.bnd1])
   (λr bs' h=>by obtain⟨rfl,rfl⟩:=h;exact⟨rfl,rfl⟩)
 repeat' first|refine st ?_|((with_reducible first|apply I5|apply I8);(·exact hF);(try rintro _ _ ⟨rfl,rfl⟩))|((with_reducible apply I9);(·exact hF))|refine⟨λ_=>?_,λ_=>?_⟩|fail
 all_goals rfl
def j7(l:List Co):Option Int->List Int->Int
 |_,[]=>0
 |p,k::ks=>if 0<=k/\k<l.length then (match p with
  |some q=>if k<=q then 25 else if (l.getD k.toNat ⟨[],0,false⟩).nl then 12 else j7 l (some k) ks
  |none=>if (l.getD k.toNat ⟨[],0,false⟩).nl then 12 else j7 l (some k) ks) else 25
def A0G(l:List Co)(ks:List Int):Int:=if ks.length=0 then 25 else j7 l none ks
def s7(ks:List Int)(i:Nat):Option Int:=if i=0 then none else ks[i-1]?
theorem C0i{l:List Co}{ks:List Int}{i:Nat}{k:Int}(h:ks[i]?=some k):j7 l (s7 ks i) (ks.drop i)=if 0<=k/\k<l.length then (match s7 ks i with
  |some q=>if k<=q then 25 else if (l.getD k.toNat ⟨[],0,false⟩).nl then 12 else j7 l (s7 ks (i+1)) (ks.drop (i+1))
  |none=>if (l.getD k.toNat ⟨[],0,false⟩).nl then 12 else j7 l (s7 ks (i+1)) (ks.drop (i+1))) else 25:=by
 obtain⟨hlt,he⟩:=A7.1 h
 have hp:s7 ks (i+1)=some k:=by rw[s7,if_neg (by omega)];exact h
 rw[P7 hlt,he,hp]
 cases s7 ks i<;>rfl
theorem B34(n:List UInt8)(l:List Co)(hl:l.length<=1048576)(dc dk df dx:D)(hc:B3 dc (A9 l))(k:Int):Pure Tryz.prog B7I [eT n dc dk df dx,.d (eI k)] (.d (.bool (decide (0<=k/\k<l.length)))):=by
 refine C6w.go A4 rfl ?_
 have h1:=F3 l
 repeat' first|refine st ?_|refine⟨λ_=>?_,λ_=>?_⟩|fail
 all_goals (simp_all<;>(intros;omega))
theorem B2U(n:List UInt8)(l:List Co)(hl:l.length<=1048576)(dc dk df dx:D)(hc:B3 dc (A9 l))(k:Int):Pure Tryz.prog B6U [eT n dc dk df dx,.d (eI k)] (.d (.bool (decide (0<=k/\k<l.length)))):=by
 refine C5z.go A4 rfl ?_
 have h1:=F3 l
 repeat' first|refine st ?_|refine⟨λ_=>?_,λ_=>?_⟩|fail
 all_goals (simp_all<;>(intros;omega))
theorem C4C(n:List UInt8)(l:List Co)(hl:l.length<=1048576)(dc dk df dx:D)(hc:B3 dc (A9 l))(ks:List Int)(hk:ks.length<=1048576)(hdk:B3 dk (A0 ks)):Pure Tryz.prog A84 [eT n dc dk df dx] (.d (eI (A0G l ks))):=by
 refine C6v.go A4 rfl ?_
 have h1:=F3 l
 have hm:=H8 l
 have h2:=B4 ks
 have hm2:=C9 ks
 unfold A0G
 by_cases h0:ks.length=0
 ·rw[if_pos h0]
  repeat' first|refine st ?_|refine⟨λ_=>?_,λ_=>?_⟩|fail
  all_goals first|rfl|(exfalso;omega)
 rw[if_neg h0]
 obtain⟨q,hq⟩:∃q,q=j7 l none ks:=⟨_,rfl⟩
 rw[<- hq]
 repeat' first|refine st ?_|refine⟨λ_=>?_,λ_=>?_⟩|fail
 refine F2 A4 C9p C8h (λ(i:Nat)=>[.d (eI i)]) (λi=>[.cells [.d (.str n),.d dc,.d dk,.d df,.d dx]]) (λi=>i<=ks.length/\q=j7 l (s7 ks i) (ks.drop i)) (λi=>ks.length-i) 0 rfl rfl rfl rfl (λ_ _=>⟨rfl,rfl⟩) rfl ⟨by omega,hq⟩ ?_
 repeat' first|refine st ?_|refine⟨λ_=>?_,λ_=>?_⟩|fail
 intro i ⟨h4,h5⟩
 cases hx:ks[i]? with
 |some k=>
  have hlt:=(A7.1 hx).1
  have hg:=K5 hx
  have hH:=B34 n l hl dc dk df dx hc k
  rw[C0i hx] at h5
  by_cases hin:0<=k/\k<l.length
  rotate_left
  ·rw[if_neg hin] at h5
   rw[decide_eq_false hin] at hH
   rw[h5]
   repeat' first|refine st ?_|refine⟨λ_=>?_,λ_=>?_⟩|fail
   all_goals rfl
  rw[if_pos hin] at h5
  rw[decide_eq_true hin] at hH
  obtain⟨i1,i2⟩:=hin
  obtain⟨c,hcx⟩:∃c,l[k.toNat]?=some c:=⟨_,C3 (by omega)⟩
  have hgc:=L4 hcx
  have hb2:k<(A9 l).length:=by omega
  rw[show l.getD k.toNat ⟨[],0,false⟩=c by rw[E8,hcx];rfl] at h5
  obtain⟨cn,ck,cl⟩:=c
  dsimp only at h5 hgc
  by_cases hi:i=0
  ·subst hi
   rw[show s7 ks 0=none from rfl] at h5
   dsimp only at h5
   cases cl with
   |true=>
    rw[if_pos rfl] at h5
    rw[h5]
    repeat' first|refine st ?_|refine⟨λ_=>?_,λ_=>?_⟩|fail
    all_goals rfl
   |false=>
    rw[if_neg (by simp)] at h5
    repeat' first|refine st ?_|refine⟨λ_=>?_,λ_=>?_⟩|fail
    exact⟨1,rfl,rfl,rfl,by omega,by omega,h5⟩
  ·obtain⟨k',hk'⟩:∃k',ks[i-1]?=some k':=⟨_,C3 (by omega)⟩
   have hg':(A0 ks)[((i:Int)-1).toNat]?=some [eI k']:=by
    rw[show((i:Int)-1).toNat=i-1 by omega]
    exact K5 hk'
   have hw:(0:Int)<i:=by omega
   rw[show s7 ks i=some k' by rw[s7,if_neg hi,hk']] at h5
   dsimp only at h5
   by_cases hle:k<=k'
   ·rw[if_pos hle] at h5
    rw[h5]
    repeat' first|refine st ?_|refine⟨λ_=>?_,λ_=>?_⟩|fail
    all_goals rfl
   ·rw[if_neg hle] at h5
    cases cl with
    |true=>
     rw[if_pos rfl] at h5
     rw[h5]
     repeat' first|refine st ?_|refine⟨λ_=>?_,λ_=>?_⟩|fail
     all_goals rfl
    |false=>
     rw[if_neg (by simp)] at h5
     repeat' first|refine st ?_|refine⟨λ_=>?_,λ_=>?_⟩|fail
     exact⟨i+1,rfl,rfl,rfl,by omega,by omega,h5⟩
 |none=>
  have hge:=C8.1 hx
  rw[S1 hge] at h5
  rw[h5]
  repeat' first|refine st ?_|refine⟨λ_=>?_,λ_=>?_⟩|fail
  all_goals first|rfl|(unfold j7;rfl)
theorem C46(n:List UInt8)(l:List Co)(hl:l.length<=1048576)(dc dk df dx:D)(hc:B3 dc (A9 l))(ks:List Int)(hk:ks.length<=1048576)(hdk:B3 dk (A0 ks)):Pure Tryz.prog B6X [eT n dc dk df dx] (.d (eI (A0G l ks))):=by
 refine C5C.go A4 rfl ?_
 have h1:=F3 l
 have hm:=H8 l
 have h2:=B4 ks
 have hm2:=C9 ks
 unfold A0G
 by_cases h0:ks.length=0
 ·rw[if_pos h0]
  repeat' first|refine st ?_|refine⟨λ_=>?_,λ_=>?_⟩|fail
  all_goals first|rfl|(exfalso;omega)
 rw[if_neg h0]
 obtain⟨q,hq⟩:∃q,q=j7 l none ks:=⟨_,rfl⟩
 rw[<- hq]
 repeat' first|refine st ?_|refine⟨λ_=>?_,λ_=>?_⟩|fail
 refine F2 A4 C8M C7E (λ(i:Nat)=>[.d (eI i)]) (λi=>[.cells [.d (.str n),.d dc,.d dk,.d df,.d dx]]) (λi=>i<=ks.length/\q=j7 l (s7 ks i) (ks.drop i)) (λi=>ks.length-i) 0 rfl rfl rfl rfl (λ_ _=>⟨rfl,rfl⟩) rfl ⟨by omega,hq⟩ ?_
 repeat' first|refine st ?_|refine⟨λ_=>?_,λ_=>?_⟩|fail
 intro i ⟨h4,h5⟩
 cases hx:ks[i]? with
 |some k=>
  have hlt:=(A7.1 hx).1
  have hg:=K5 hx
  have hH:=B2U n l hl dc dk df dx hc k
  rw[C0i hx] at h5
  by_cases hin:0<=k/\k<l.length
  rotate_left
  ·rw[if_neg hin] at h5
   rw[decide_eq_false hin] at hH
   rw[h5]
   repeat' first|refine st ?_|refine⟨λ_=>?_,λ_=>?_⟩|fail
   all_goals rfl
  rw[if_pos hin] at h5
  rw[decide_eq_true hin] at hH
  obtain⟨i1,i2⟩:=hin
  obtain⟨c,hcx⟩:∃c,l[k.toNat]?=some c:=⟨_,C3 (by omega)⟩
  have hgc:=L4 hcx
  have hb2:k<(A9 l).length:=by omega
  rw[show l.getD k.toNat ⟨[],0,false⟩=c by rw[E8,hcx];rfl] at h5
  obtain⟨cn,ck,cl⟩:=c
  dsimp only at h5 hgc
  by_cases hi:i=0
  ·subst hi
   rw[show s7 ks 0=none from rfl] at h5
   dsimp only at h5
   cases cl with
   |true=>
    rw[if_pos rfl] at h5
    rw[h5]
    repeat' first|refine st ?_|refine⟨λ_=>?_,λ_=>?_⟩|fail
    all_goals rfl
   |false=>
    rw[if_neg (by simp)] at h5
    repeat' first|refine st ?_|refine⟨λ_=>?_,λ_=>?_⟩|fail
    exact⟨1,rfl,rfl,rfl,by omega,by omega,h5⟩
  ·obtain⟨k',hk'⟩:∃k',ks[i-1]?=some k':=⟨_,C3 (by omega)⟩
   have hg':(A0 ks)[((i:Int)-1).toNat]?=some [eI k']:=by
    rw[show((i:Int)-1).toNat=i-1 by omega]
    exact K5 hk'
   have hw:(0:Int)<i:=by omega
   rw[show s7 ks i=some k' by rw[s7,if_neg hi,hk']] at h5
   dsimp only at h5
   by_cases hle:k<=k'
   ·rw[if_pos hle] at h5
    rw[h5]
    repeat' first|refine st ?_|refine⟨λ_=>?_,λ_=>?_⟩|fail
    all_goals rfl
   ·rw[if_neg hle] at h5
    cases cl with
    |true=>
     rw[if_pos rfl] at h5
     rw[h5]
     repeat' first|refine st ?_|refine⟨λ_=>?_,λ_=>?_⟩|fail
     all_goals rfl
    |false=>
     rw[if_neg (by simp)] at h5
     repeat' first|refine st ?_|refine⟨λ_=>?_,λ_=>?_⟩|fail
     exact⟨i+1,rfl,rfl,rfl,by omega,by omega,h5⟩
 |none=>
  have hge:=C8.1 hx
  rw[S1 hge] at h5
  rw[h5]
  repeat' first|refine st ?_|refine⟨λ_=>?_,λ_=>?_⟩|fail
  all_goals first|rfl|(unfold j7;rfl)
def o8(seen:List (List UInt8)):List Co->Int
 |[]=>0
 |c::r=>if L5 c.nm then (if 1<=c.k/\c.k<=3 then (if c.nm∈seen then 10 else o8 (seen++[c.nm]) r) else 7) else 1
def w8(l:List Co):Int:=if 1<=l.length/\l.length<=12 then o8 [] l else 13
def X9(l:List Co)(i:Nat):List (List UInt8):=(l.take i).map Co.nm
theorem C0N{l:List Co}{i:Nat}{c:Co}(h:l[i]?=some c):X9 l i++[c.nm]=X9 l (i+1):=by
 unfold X9
 rw[P1,h]
 simp
theorem B8V{l:List Co}{i:Nat}{c:Co}(h:l[i]?=some c):o8 (X9 l i) (l.drop i)=if L5 c.nm then (if 1<=c.k/\c.k<=3 then (if c.nm∈X9 l i then 10 else o8 (X9 l (i+1)) (l.drop (i+1))) else 7) else 1:=by
 obtain⟨hlt,he⟩:=A7.1 h
 rw[P7 hlt,he,<- C0N h,o8]
def X7(ns:List (List UInt8)):List (D×AV):=ns.map λs=>(.str s,.d (eI 1))
theorem A3L(a b:List UInt8):Z6 .s (.str a) (.str b)=some (decide (a=b)):=by
 unfold Z6
 rw[A11,A0U]
 simp
theorem B1M(s:List UInt8)(kvs:List (D×AV))(h:∀p∈kvs,∃t,p.1=.str t):n5 .s (.str s) kvs:=by
 refine⟨λp hp=>?_,by rw[A3L];simp⟩
 obtain⟨t,ht⟩:=h p hp
 rw[ht,A3L];simp
theorem B1N(ns:List (List UInt8)):∀p∈X7 ns,∃t,p.1=.str t:=by
 intro p hp
 obtain⟨s,_,rfl⟩:=D9.1 hp
 exact⟨s,rfl⟩
theorem B1I{s:List UInt8}:∀{ns:List (List UInt8)},s∈ns->J6 .s (.str s) (X7 ns)=some (.d (eI 1))
 |[],h=>by cases h
 |t::ns,h=>by
  unfold X7
  rw[Q8,J6,A3L]
  by_cases e:s=t
  ·rw[if_pos (by rw[decide_eq_true e])]
  ·rw[if_neg (by simp[e])]
   exact B1I (by rcases I6.1 h with h|h;exact absurd h e;exact h)
theorem C0B{s:List UInt8}:∀{ns:List (List UInt8)},¬s∈ns->J6 .s (.str s) (X7 ns)=none
 |[],h=>rfl
 |t::ns,h=>by
  unfold X7
  rw[Q8,J6,A3L]
  rw[if_neg (by simp;intro e;exact h (by simp[e]))]
  exact C0B λh'=>h (by simp[h'])
theorem C0E{s:List UInt8}{v:AV}:∀{ns:List (List UInt8)},¬s∈ns->K9 .s (.str s) v (X7 ns)=X7 ns++[(.str s,v)]
 |[],h=>rfl
 |t::ns,h=>by
  unfold X7
  rw[Q8,K9,A3L]
  rw[if_neg (by simp;intro e;exact h (by simp[e]))]
  have e:K9 .s (.str s) v (X7 ns)=X7 ns++[(.str s,v)]:=C0E (λh':s∈ns=>h (J2 _ h'))
  unfold X7 at e
  rw[e];rfl
theorem C0G{s:List UInt8}{v:AV}:∀{kvs:List (D×AV)},(∀p∈kvs,∃t,p.1=.str t)->∀p∈K9 .s (.str s) v kvs,∃t,p.1=.str t
 |[],h,p,hp=>by simp[K9] at hp;subst hp;exact⟨s,rfl⟩
 |q::kvs,h,p,hp=>by
  unfold K9 at hp
  split at hp
  ·rcases I6.1 hp with rfl|hp
   ·exact⟨s,rfl⟩
   ·exact h p (by simp[hp])
  ·rcases I6.1 hp with rfl|hp
   ·exact h _ (by simp)
   ·exact C0G (λp hp=>h p (by simp[hp])) p hp
theorem C0z{s:List UInt8}{v:AV}:∀{kvs:List (D×AV)},J6 .s (.str s) (K9 .s (.str s) v kvs)=some v
 |[]=>by simp[K9,J6,A3L]
 |q::kvs=>by
  unfold K9
  split
  ·simp[J6,A3L]
  ·rename_i h
   rw[J6,if_neg h]
   exact C0z
theorem B9x{nm:List UInt8}:∀{l:List Co}{i j:Nat}{c:Co},l[j]?=some c->c.nm=nm->m7 nm i l=(i+j:Nat)/\¬nm∈(l.take j).map Co.nm\/(i:Int)<=m7 nm i l/\m7 nm i l<(i+j:Nat)/\nm∈(l.take j).map Co.nm
 |[],i,j,c,h,_=>by simp at h
 |d::l,i,0,c,h,e=>by
  simp only[A29,A11] at h
  subst h
  left
  unfold m7
  rw[if_pos e]
  exact⟨by simp,by simp⟩
 |d::l,i,j+1,c,h,e=>by
  rw[l6] at h
  unfold m7
  by_cases hd:d.nm=nm
  ·right
   rw[if_pos hd]
   exact⟨Int.le_refl _,by omega,by simp[hd]⟩
  ·rw[if_neg hd]
   rcases B9x (i:=i+1) h e with ⟨h1,h2⟩|⟨h1,h2,h3⟩
   ·left
    refine⟨by omega,?_⟩
    simp only[A3t,Q8,I6,not_or]
    exact⟨λh=>hd h.symm,h2⟩
   ·right
    refine⟨by omega,by omega,?_⟩
    simp only[A3t,Q8,I6]
    exact .inr h3
theorem C42(n:List UInt8)(l:List Co)(hl:l.length<=1048576)(hls:∀c∈l,c.nm.length<=1048576)(dc dk df dx:D)(hc:B3 dc (A9 l)):Pure Tryz.prog B6S [eT n dc dk df dx] (.d (eI (w8 l))):=by
 refine C5x.go A4 rfl ?_
 have h1:=F3 l
 have hm:=H8 l
 unfold w8
 by_cases h0:1<=l.length/\l.length<=12
 rotate_left
 ·rw[if_neg h0]
  repeat' first|refine st ?_|refine⟨λ_=>?_,λ_=>?_⟩|fail
  all_goals first|rfl|(exfalso;omega)
 rw[if_pos h0]
 obtain⟨g1,g2⟩:=h0
 obtain⟨q,hq⟩:∃q,q=o8 [] l:=⟨_,rfl⟩
 rw[<- hq]
 repeat' first|refine st ?_|refine⟨λ_=>?_,λ_=>?_⟩|fail
 refine F2 A4 C8G C7y (λ(i:Nat)=>[.d (eI i)]) (λi=>[.cells [.d (.str n),.d dc,.d dk,.d df,.d dx]]) (λi=>i<=l.length/\q=o8 (X9 l i) (l.drop i)) (λi=>l.length-i) 0 rfl rfl rfl rfl (λ_ _=>⟨rfl,rfl⟩) rfl ⟨by omega,hq⟩ ?_
 repeat' first|refine st ?_|refine⟨λ_=>?_,λ_=>?_⟩|fail
 intro i ⟨h4,h5⟩
 cases hx:l[i]? with
 |some x=>
  have hlt:=(A7.1 hx).1
  have hg:=L4 hx
  have hN:=A5i x.nm (hls x (B9 hx))
  have hF:=A3j n l hl dc dk df dx hc x.nm
  have hff:=B9x (i:=0) hx rfl
  rw[B8V hx] at h5
  cases hv:L5 x.nm with
  |false=>
   rw[hv,if_neg (by simp)] at h5
   rw[hv] at hN
   rw[h5]
   repeat' first|refine st ?_|refine⟨λ_=>?_,λ_=>?_⟩|fail
   all_goals rfl
  |true=>
   rw[hv,if_pos rfl] at h5
   rw[hv] at hN
   by_cases hk:1<=x.k/\x.k<=3
   rotate_left
   ·rw[if_neg hk] at h5
    rw[h5]
    repeat' first|refine st ?_|refine⟨λ_=>?_,λ_=>?_⟩|fail
    all_goals first|rfl|(exfalso;omega)
   rw[if_pos hk] at h5
   obtain⟨k1,k2⟩:=hk
   by_cases hin:x.nm∈X9 l i
   ·rw[if_pos hin] at h5
    have hlti:D4 x.nm l<i:=by
     rcases hff with ⟨_,h⟩|⟨_,h,_⟩
     ·exact absurd hin h
     ·rw[D4];omega
    rw[h5]
    repeat' first|refine st ?_|refine⟨λ_=>?_,λ_=>?_⟩|fail
    all_goals rfl
   ·rw[if_neg hin] at h5
    have hge:¬D4 x.nm l<i:=by
     rcases hff with ⟨h,_⟩|⟨_,_,h⟩
     ·rw[D4];omega
     ·exact absurd h hin
    repeat' first|refine st ?_|refine⟨λ_=>?_,λ_=>?_⟩|fail
    exact⟨i+1,rfl,rfl,rfl,by omega,by omega,h5⟩
 |none=>
  have hge:=C8.1 hx
  rw[S1 hge] at h5
  rw[h5]
  repeat' first|refine st ?_|refine⟨λ_=>?_,λ_=>?_⟩|fail
  all_goals rfl
theorem C4D(k:Int):Pure Tryz.prog B7J [.d (eI k)] (.d (.bool (decide (1<=k/\k<=3)))):=by
 refine C6x.go A4 rfl ?_
 repeat' first|refine st ?_|refine⟨λ_=>?_,λ_=>?_⟩|fail
 all_goals (simp_all<;>(intros;omega))
theorem D5x(ns:List (List UInt8))(s:List UInt8):X7 ns++[(.str s,.d (eI 1))]=X7 (ns++[s]):=by simp[X7]
theorem C4A(n:List UInt8)(l:List Co)(hl:l.length<=1048576)(hls:∀c∈l,c.nm.length<=1048576)(dc dk df dx:D)(hc:B3 dc (A9 l)):Pure Tryz.prog A82 [eT n dc dk df dx] (.d (eI (w8 l))):=by
 refine C6t.go A4 rfl ?_
 have h1:=F3 l
 have hm:=H8 l
 unfold w8
 by_cases h0:1<=l.length/\l.length<=12
 rotate_left
 ·rw[if_neg h0]
  repeat' first|refine st ?_|refine⟨λ_=>?_,λ_=>?_⟩|fail
  all_goals first|rfl|(exfalso;omega)
 rw[if_pos h0]
 obtain⟨g1,g2⟩:=h0
 obtain⟨q,hq⟩:∃q,q=o8 [] l:=⟨_,rfl⟩
 rw[<- hq]
 repeat' first|refine st ?_|refine⟨λ_=>?_,λ_=>?_⟩|fail
 refine F2 A4 C9m C8e (λ(i:Nat)=>[.d (eI i)]) (λi=>[.cells [.d (.str n),.d dc,.d dk,.d df,.d dx],.map (X7 (X9 l i))]) (λi=>i<=l.length/\q=o8 (X9 l i) (l.drop i)) (λi=>l.length-i) 0 rfl rfl rfl rfl (λ_ _=>⟨rfl,(by simp[i6,AO.bndB,X7,AV.bnd2B,AV.bnd1B])⟩) rfl ⟨by omega,hq⟩ ?_
 repeat' first|refine st ?_|refine⟨λ_=>?_,λ_=>?_⟩|fail
 intro i ⟨h4,h5⟩
 cases hx:l[i]? with
 |some x=>
  have hlt:=(A7.1 hx).1
  have hg:=L4 hx
  have hN:=A5k x.nm (hls x (B9 hx))
  have hK:=C4D x.k
  have hs:=C0N hx
  rw[B8V hx] at h5
  obtain⟨kvs,hkv⟩:∃kvs,kvs=X7 (X9 l i):=⟨_,rfl⟩
  have m1:n5 .s (.str x.nm) kvs:=by rw[hkv];exact B1M _ _ (B1N _)
  by_cases hin:x.nm∈X9 l i
  ·rw[if_pos hin] at h5
   have e1:lkR false (zv false [.int .i64 0]) (J6 .s (.str x.nm) kvs)=.d (eI 1):=by rw[hkv,B1I hin];rfl
   obtain⟨kv2,e2⟩:∃kv2,K9 .s (.str x.nm) (.d (eI 2)) kvs=kv2:=⟨_,rfl⟩
   have m2:n5 .s (.str x.nm) kv2:=by rw[<- e2,hkv];exact B1M _ _ (C0G (B1N _))
   have e3:lkR false (zv false [.int .i64 0]) (J6 .s (.str x.nm) kv2)=.d (eI 2):=by rw[<- e2,C0z];rfl
   rw[<- hkv]
   cases hv:L5 x.nm with
   |false=>
    rw[hv,if_neg (by simp)] at h5
    rw[hv] at hN
    rw[h5]
    repeat' first|refine st ?_|refine⟨λ_=>?_,λ_=>?_⟩|fail
    all_goals rfl
   |true=>
    rw[hv,if_pos rfl] at h5
    rw[hv] at hN
    by_cases hk:1<=x.k/\x.k<=3
    ·rw[if_pos hk] at h5
     rw[decide_eq_true hk] at hK
     rw[h5]
     repeat' first|refine st ?_|refine⟨λ_=>?_,λ_=>?_⟩|fail
     all_goals rfl
    ·rw[if_neg hk] at h5
     rw[decide_eq_false hk] at hK
     rw[h5]
     repeat' first|refine st ?_|refine⟨λ_=>?_,λ_=>?_⟩|fail
     all_goals rfl
  ·rw[if_neg hin] at h5
   have e1:lkR false (zv false [.int .i64 0]) (J6 .s (.str x.nm) kvs)=.d (eI 0):=by rw[hkv,C0B hin];rfl
   have e2:K9 .s (.str x.nm) (.d (eI 1)) kvs=X7 (X9 l (i+1)):=by rw[hkv,C0E hin,D5x,hs]
   have m2:n5 .s (.str x.nm) (X7 (X9 l (i+1))):=B1M _ _ (B1N _)
   have e3:lkR false (zv false [.int .i64 0]) (J6 .s (.str x.nm) (X7 (X9 l (i+1))))=.d (eI 1):=by rw[B1I (by rw[<- hs];simp)];rfl
   rw[<- hkv]
   cases hv:L5 x.nm with
   |false=>
    rw[hv,if_neg (by simp)] at h5
    rw[hv] at hN
    rw[h5]
    repeat' first|refine st ?_|refine⟨λ_=>?_,λ_=>?_⟩|fail
    all_goals rfl
   |true=>
    rw[hv,if_pos rfl] at h5
    rw[hv] at hN
    by_cases hk:1<=x.k/\x.k<=3
    ·rw[if_pos hk] at h5
     rw[decide_eq_true hk] at hK
     repeat' first|refine st ?_|refine⟨λ_=>?_,λ_=>?_⟩|fail
     exact⟨i+1,rfl,rfl,rfl,by omega,by omega,h5⟩
    ·rw[if_neg hk] at h5
     rw[decide_eq_false hk] at hK
     rw[h5]
     repeat' first|refine st ?_|refine⟨λ_=>?_,λ_=>?_⟩|fail
     all_goals rfl
 |none=>
  have hge:=C8.1 hx
  rw[S1 hge] at h5
  rw[h5]
  repeat' first|refine st ?_|refine⟨λ_=>?_,λ_=>?_⟩|fail
  all_goals rfl
end Go.Proofs
end
section
namespace Go.Proofs
open Go.Bi
inductive Ex where
 |mk (op n:Int) (v:Vl) (name:List UInt8) (nl:Bool) (args:List Ex)
theorem Ex.ind{p:Ex->Prop}(h:∀op n v name nl args,(∀a∈args,p a)->p (.mk op n v name nl args)):∀e,p e
 |.mk op n v name nl args=>h _ _ _ _ _ _ λa ha=>Ex.ind h a
termination_by e=>SizeOf.sizeOf e
decreasing_by
 have:=List.sizeOf_lt_of_mem ha
 simp only[Ex.mk.sizeOf_spec]
 omega
def ng(nl:Bool)(l:List (List D)):D:=if nl&&l.isEmpty then .nil else .sl l
theorem t7{nl:Bool}{l:List (List D)}:B3 (ng nl l) l:=by
 unfold ng
 split
 ·rename_i h
  simp only[L6,u9] at h
  exact .inl ⟨rfl,h.2⟩
 ·exact .inr rfl
abbrev W6(op n:Int)(v:Vl)(name:List UInt8)(d:D):List D:=[eI op,eI n,eI v.k,eI v.n,.str v.s,.str name,d]
abbrev eX(op n:Int)(v:Vl)(name:List UInt8)(d:D):AV:=.agg [.d (eI op),.d (eI n),.d (eI v.k),.d (eI v.n),.d (.str v.s),.d (.str name),.d d]
mutual
def Ex.ds:Ex->List D
 |.mk op n v name nl args=>W6 op n v name (ng nl (Ex.dss args))
def Ex.dss:List Ex->List (List D)
 |[]=>[]
 |e::es=>e.ds::Ex.dss es
end
theorem Ex.dss_eq:∀l,Ex.dss l=l.map Ex.ds
 |[]=>by simp[Ex.dss]
 |e::es=>by simp[Ex.dss,Ex.dss_eq es]
def xL(l:List Ex):List (List D):=l.map Ex.ds
theorem Ex.ds_mk(op n:Int)(v:Vl)(name:List UInt8)(nl:Bool)(args:List Ex):(Ex.mk op n v name nl args).ds=W6 op n v name (ng nl (xL args)):=by
 rw[Ex.ds,Ex.dss_eq];rfl
def Ex.av(e:Ex):AV:=.agg (e.ds.map .d)
theorem Ex.av_mk(op n:Int)(v:Vl)(name:List UInt8)(nl:Bool)(args:List Ex):(Ex.mk op n v name nl args).av=eX op n v name (ng nl (xL args)):=by
 rw[Ex.av,Ex.ds_mk];rfl
theorem I7(l:List Ex):(xL l).length=l.length:=by simp[xL]
theorem O7(l:List Ex):∀e∈xL l,e.length=7:=by
 intro e he
 obtain⟨⟨op,n,v,name,nl,args⟩,_,rfl⟩:=D9.1 he
 rw[Ex.ds_mk];rfl
theorem t8{l:List Ex}{i:Nat}{e:Ex}(h:l[i]?=some e):(xL l)[i]?=some e.ds:=by simp[xL,h]
def Ex.bk(e:Ex):Nat:=E4 e.ds
theorem A2g{l:List (List D)}{x:List D}(h:x∈l):E4 x<=H4 l:=by
 induction l with
 |nil=>cases h
 |cons y l ih=>
  simp only[H4]
  rcases I6.1 h with rfl|h
  ·omega
  ·have:=ih h;omega
theorem A4u{l:List (List D)}(h:∀x∈l,1<=E4 x):l.length<=H4 l:=by
 induction l with
 |nil=>exact R1 _
 |cons y l ih=>
  have h1:=h y (by simp)
  have h2:=ih λx hx=>h x (by simp[hx])
  simp only[H4,H7]
  omega
theorem Ex.bk_mk(op n:Int)(v:Vl)(name:List UInt8)(nl:Bool)(args:List Ex):H4 (xL args)+v.s.length+name.length+6<=(Ex.mk op n v name nl args).bk:=by
 rw[Ex.bk,Ex.ds_mk]
 simp only[E4,S8]
 unfold ng
 split
 ·rename_i h
  simp only[L6,u9] at h
  rw[h.2]
  simp only[S8,H4]
  omega
 ·simp only[S8];omega
theorem Ex.bk_pos(e:Ex):6<=e.bk:=by
 obtain⟨op,n,v,name,nl,args⟩:=e
 have:=Ex.bk_mk op n v name nl args
 omega
theorem C2s(l:List Ex):l.length<=H4 (xL l):=by
 rw[<- I7 l]
 refine A4u λx hx=>?_
 obtain⟨e,_,rfl⟩:=D9.1 hx
 have:=e.bk_pos
 unfold Ex.bk at this
 omega
theorem Ex.bk_arg{op n:Int}{v:Vl}{name:List UInt8}{nl:Bool}{args:List Ex}{a:Ex}(h:a∈args):a.bk<(Ex.mk op n v name nl args).bk:=by
 have h1:=Ex.bk_mk op n v name nl args
 have h2:E4 a.ds<=H4 (xL args):=A2g (D9.2 ⟨a,h,rfl⟩)
 unfold Ex.bk at *
 omega
theorem Ex.bk_bounds{op n:Int}{v:Vl}{name:List UInt8}{nl:Bool}{args:List Ex}{B:Nat}(h:(Ex.mk op n v name nl args).bk<=B):args.length<=B/\v.s.length<=B/\name.length<=B/\∀a∈args,a.bk<=B:=by
 have h1:=Ex.bk_mk op n v name nl args
 have h2:=C2s args
 exact⟨by omega,by omega,by omega,λa ha=>by have:=Ex.bk_arg (op:=op) (n:=n) (v:=v) (name:=name) (nl:=nl) ha;omega⟩
end Go.Proofs
end
section
namespace Go.Proofs
open Go.Bi
structure Fo where
 nl:Bool
 cs:List Int
 tb:List UInt8
def Fo.d(f:Fo):D:=ng f.nl (A0 f.cs)
abbrev Fo.ds(f:Fo):List D:=[f.d,.str f.tb]
theorem Fo.sld(f:Fo):B3 f.d (A0 f.cs):=t7
def G5(l:List Fo):List (List D):=l.map Fo.ds
theorem A0C(l:List Fo):(G5 l).length=l.length:=by simp[G5]
theorem A2V{l:List Fo}{i:Nat}{f:Fo}(h:l[i]?=some f):(G5 l)[i]?=some f.ds:=by simp[G5,h]
theorem A2j(l:List Fo):∀e∈G5 l,e.length=2:=by
 intro e he
 obtain⟨x,_,rfl⟩:=D9.1 he
 rfl
def p9(n:Nat)(seen:List Int):List Int->Int
 |[]=>0
 |c::r=>if (0<=c/\c<n)/\¬c∈seen then p9 n (seen++[c]) r else 25
def A0E(n:Nat)(f:Fo):Int:=if L5 f.tb then (if f.cs.length=0 then 25 else p9 n [] f.cs) else 1
theorem B9m{n:Nat}{l:List Int}{i:Nat}{c:Int}(h:l[i]?=some c):p9 n (l.take i) (l.drop i)=if (0<=c/\c<n)/\¬c∈l.take i then p9 n (l.take (i+1)) (l.drop (i+1)) else 25:=by
 obtain⟨hlt,he⟩:=A7.1 h
 rw[P7 hlt,he,p9,P1,h]
 rfl
end Go.Proofs
end
section
namespace Go.Proofs
open Go.Bi
theorem C44(n:List UInt8)(l:List Co)(hl:l.length<=1048576)(dc dk df dx:D)(hc:B3 dc (A9 l))(f:Fo)(hf:f.cs.length<=1048576)(hft:f.tb.length<=1048576):Pure Tryz.prog B6V [eT n dc dk df dx,.agg [.d f.d,.d (.str f.tb)]] (.d (eI (A0E l.length f))):=by
 refine C5A.go A4 rfl ?_
 have h1:=B4 f.cs
 have hm:=C9 f.cs
 have hsd:=f.sld
 have hN:=A5i f.tb hft
 obtain⟨nl,cs,tb⟩:=f
 obtain⟨fd,hfd⟩:∃fd,fd=Fo.d ⟨nl,cs,tb⟩:=⟨_,rfl⟩
 rw[<- hfd] at hsd ⊢
 dsimp only at h1 hm hsd hN hf ⊢
 unfold A0E
 dsimp only
 cases hv:L5 tb with
 |false=>
  rw[hv] at hN
  rw[if_neg (by simp)]
  repeat' first|refine st ?_|refine⟨λ_=>?_,λ_=>?_⟩|fail
  all_goals rfl
 |true=>
 rw[hv] at hN
 rw[if_pos rfl]
 by_cases h0:cs.length=0
 ·rw[if_pos h0]
  repeat' first|refine st ?_|refine⟨λ_=>?_,λ_=>?_⟩|fail
  all_goals first|rfl|(exfalso;omega)
 rw[if_neg h0]
 obtain⟨q,hq⟩:∃q,q=p9 l.length [] cs:=⟨_,rfl⟩
 rw[<- hq]
 repeat' first|refine st ?_|refine⟨λ_=>?_,λ_=>?_⟩|fail
 refine F2 A4 C8K C7C (λ(i:Nat)=>[.d (eI i)]) (λi=>[.cells [.d (.str n),.d dc,.d dk,.d df,.d dx],.cells [.d fd,.d (.str tb)]]) (λi=>i<=cs.length/\q=p9 l.length (cs.take i) (cs.drop i)) (λi=>cs.length-i) 0 rfl rfl rfl rfl (λ_ _=>⟨rfl,rfl⟩) rfl ⟨by omega,hq⟩ ?_
 repeat' first|refine st ?_|refine⟨λ_=>?_,λ_=>?_⟩|fail
 intro i ⟨h4,h5⟩
 cases hx:cs[i]? with
 |some c=>
  have hlt:=(A7.1 hx).1
  have hg:=K5 hx
  have hE:=B2U n l hl dc dk df dx hc c
  rw[B9m hx] at h5
  by_cases hin:0<=c/\c<l.length
  rotate_left
  ·rw[if_neg (λh=>hin h.1)] at h5
   rw[decide_eq_false hin] at hE
   rw[h5]
   repeat' first|refine st ?_|refine⟨λ_=>?_,λ_=>?_⟩|fail
   all_goals rfl
  rw[decide_eq_true hin] at hE
  repeat' first|refine st ?_|refine⟨λ_=>?_,λ_=>?_⟩|fail
  refine F2 A4 C8J C7B (λ(k:Nat)=>[.d (eI k)]) (λk=>[.cells [.d (.str n),.d dc,.d dk,.d df,.d dx],.cells [.d fd,.d (.str tb)]]) (λk=>k<=i/\¬c∈cs.take k) (λk=>i-k) 0 rfl rfl rfl rfl (λ_ _=>⟨rfl,rfl⟩) rfl ⟨by omega,by simp⟩ ?_
  repeat' first|refine st ?_|refine⟨λ_=>?_,λ_=>?_⟩|fail
  intro k ⟨h6,h7⟩
  by_cases hk:k<i
  ·obtain⟨c',hc'⟩:∃c',cs[k]?=some c':=⟨_,C3 (by omega)⟩
   have hg':=K5 hc'
   by_cases he:c'=c
   ·have hmem:c∈cs.take i:=by
     rw[<- he]
     exact B9 (i:=k) (by rw[A7G hk];exact hc')
    rw[if_neg (λh=>h.2 hmem)] at h5
    rw[h5]
    repeat' first|refine st ?_|refine⟨λ_=>?_,λ_=>?_⟩|fail
    all_goals rfl
   ·repeat' first|refine st ?_|refine⟨λ_=>?_,λ_=>?_⟩|fail
    refine⟨k+1,rfl,rfl,rfl,by omega,by omega,?_⟩
    rw[P1,hc']
    intro hmem
    rcases P4.1 hmem with h|h
    ·exact h7 h
    ·simp at h;exact he h.symm
  ·have:k=i:=by omega
   subst this
   rw[if_pos ⟨hin,h7⟩] at h5
   repeat' first|refine st ?_|refine⟨λ_=>?_,λ_=>?_⟩|fail
   exact⟨k+1,rfl,rfl,rfl,by omega,by omega,h5⟩
 |none=>
  have hge:=C8.1 hx
  rw[S1 hge] at h5
  rw[h5]
  repeat' first|refine st ?_|refine⟨λ_=>?_,λ_=>?_⟩|fail
  all_goals rfl
end Go.Proofs
end
section
namespace Go.Proofs
open Go.Bi
def X8(ns:List Int):List (D×AV):=ns.map λs=>(eI s,.d (eI 1))
theorem A1e(a b:Int):Z6 .i (eI a) (eI b)=some (decide (a=b)):=by
 show(if IntKind.i64=IntKind.i64 then some (a==b) else none)=_
 rw[if_pos rfl,A11,A0U]
 simp
theorem A6F(s:Int)(kvs:List (D×AV))(h:∀p∈kvs,∃t,p.1=eI t):n5 .i (eI s) kvs:=by
 refine⟨λp hp=>?_,by rw[A1e];simp⟩
 obtain⟨t,ht⟩:=h p hp
 rw[ht,A1e];simp
theorem B1O(ns:List Int):∀p∈X8 ns,∃t,p.1=eI t:=by
 intro p hp
 obtain⟨s,_,rfl⟩:=D9.1 hp
 exact⟨s,rfl⟩
theorem B1J{s:Int}:∀{ns:List Int},s∈ns->J6 .i (eI s) (X8 ns)=some (.d (eI 1))
 |[],h=>by cases h
 |t::ns,h=>by
  unfold X8
  rw[Q8,J6,A1e]
  by_cases e:s=t
  ·rw[if_pos (by rw[decide_eq_true e])]
  ·rw[if_neg (by simp[e])]
   exact B1J (by rcases I6.1 h with h|h;exact absurd h e;exact h)
theorem C0C{s:Int}:∀{ns:List Int},¬s∈ns->J6 .i (eI s) (X8 ns)=none
 |[],h=>rfl
 |t::ns,h=>by
  unfold X8
  rw[Q8,J6,A1e]
  rw[if_neg (by simp;intro e;exact h (by simp[e]))]
  exact C0C λh'=>h (by simp[h'])
theorem C0F{s:Int}{v:AV}:∀{ns:List Int},¬s∈ns->K9 .i (eI s) v (X8 ns)=X8 ns++[(eI s,v)]
 |[],h=>rfl
 |t::ns,h=>by
  unfold X8
  rw[Q8,K9,A1e]
  rw[if_neg (by simp;intro e;exact h (by simp[e]))]
  have e:K9 .i (eI s) v (X8 ns)=X8 ns++[(eI s,v)]:=C0F (λh':s∈ns=>h (J2 _ h'))
  unfold X8 at e
  rw[e];rfl
theorem C0H{s:Int}{v:AV}:∀{kvs:List (D×AV)},(∀p∈kvs,∃t,p.1=eI t)->∀p∈K9 .i (eI s) v kvs,∃t,p.1=eI t
 |[],h,p,hp=>by simp[K9] at hp;subst hp;exact⟨s,rfl⟩
 |q::kvs,h,p,hp=>by
  unfold K9 at hp
  split at hp
  ·rcases I6.1 hp with rfl|hp
   ·exact⟨s,rfl⟩
   ·exact h p (by simp[hp])
  ·rcases I6.1 hp with rfl|hp
   ·exact h _ (by simp)
   ·exact C0H (λp hp=>h p (by simp[hp])) p hp
theorem B1K{s:Int}{v:AV}:∀{kvs:List (D×AV)},J6 .i (eI s) (K9 .i (eI s) v kvs)=some v
 |[]=>by simp[K9,J6,A1e]
 |q::kvs=>by
  unfold K9
  split
  ·simp[J6,A1e]
  ·rename_i h
   rw[J6,if_neg h]
   exact B1K
theorem D5v(ns:List Int)(s:Int):X8 ns++[(eI s,.d (eI 1))]=X8 (ns++[s]):=by simp[X8]
theorem D5w(ns:List Int)(m:Nat):(AO.map (X8 ns)).bndB m=true:=by
 refine O3.2 λp hp=>?_
 obtain⟨s,_,rfl⟩:=D9.1 hp
 rfl
def V7(n:Nat):List Fo->Int
 |[]=>0
 |f::r=>if A0E n f=0 then V7 n r else A0E n f
def A4I(n:Nat)(l:List Fo):Int:=if l.length<=4 then V7 n l else 5
theorem B9P{n:Nat}{l:List Fo}{i:Nat}{f:Fo}(h:l[i]?=some f):V7 n (l.drop i)=if A0E n f=0 then V7 n (l.drop (i+1)) else A0E n f:=by
 obtain⟨hlt,he⟩:=A7.1 h
 rw[P7 hlt,he];rfl
theorem C4B(n:List UInt8)(l:List Co)(hl:l.length<=1048576)(fs:List Fo)(hfl:fs.length<=1048576)(hfc:∀f∈fs,f.cs.length<=1048576/\f.tb.length<=1048576)(dc dk df dx:D)(hc:B3 dc (A9 l))(hdf:B3 df (G5 fs)):Pure Tryz.prog A83 [eT n dc dk df dx] (.d (eI (A4I l.length fs))):=by
 refine C6u.go A4 rfl ?_
 have h1:=A0C fs
 have hm:=A2j fs
 unfold A4I
 by_cases h0:fs.length<=4
 rotate_left
 ·rw[if_neg h0]
  repeat' first|refine st ?_|refine⟨λ_=>?_,λ_=>?_⟩|fail
  all_goals first|rfl|(exfalso;omega)
 rw[if_pos h0]
 obtain⟨q,hq⟩:∃q,q=V7 l.length fs:=⟨_,rfl⟩
 rw[<- hq]
 repeat' first|refine st ?_|refine⟨λ_=>?_,λ_=>?_⟩|fail
 refine F2 A4 C9o C8g (λ(i:Nat)=>[.d (eI i)]) (λi=>[.cells [.d (.str n),.d dc,.d dk,.d df,.d dx]]) (λi=>i<=fs.length/\q=V7 l.length (fs.drop i)) (λi=>fs.length-i) 0 rfl rfl rfl rfl (λ_ _=>⟨rfl,rfl⟩) rfl ⟨by omega,hq⟩ ?_
 repeat' first|refine st ?_|refine⟨λ_=>?_,λ_=>?_⟩|fail
 intro i ⟨h4,h5⟩
 cases hx:fs[i]? with
 |some f=>
  have hlt:=(A7.1 hx).1
  have hg:=A2V hx
  obtain⟨hf,hft⟩:=hfc f (B9 hx)
  have hN:=A5k f.tb hft
  rw[B9P hx] at h5
  have k1:=B4 f.cs
  have k2:=C9 f.cs
  have hsd:=f.sld
  obtain⟨nl,cs,tb⟩:=f
  have hg:(G5 fs)[i]?=some [Fo.d ⟨nl,cs,tb⟩,.str tb]:=hg
  obtain⟨fd,hfd⟩:∃fd,fd=Fo.d ⟨nl,cs,tb⟩:=⟨_,rfl⟩
  rw[<- hfd] at hsd hg
  dsimp only at k1 k2 hsd hN hf
  obtain⟨e,he⟩:∃e,e=A0E l.length ⟨nl,cs,tb⟩:=⟨_,rfl⟩
  rw[<- he] at h5
  unfold A0E at he
  dsimp only at he
  cases hv:L5 tb with
  |false=>
   rw[hv] at hN
   rw[hv,if_neg (by simp)] at he
   rw[he,if_neg (by decide)] at h5
   rw[h5]
   repeat' first|refine st ?_|refine⟨λ_=>?_,λ_=>?_⟩|fail
   all_goals rfl
  |true=>
   rw[hv] at hN
   rw[hv,if_pos rfl] at he
   have hcF:e=0->¬cs.length=0/\p9 l.length [] cs=0:=λh=>by
    by_cases g:cs.length=0
    ·rw[if_pos g] at he;omega
    ·rw[if_neg g] at he;exact⟨g,by omega⟩
   have hcF2:p9 l.length [] cs=25->e=25:=λh=>by
    by_cases g:cs.length=0
    ·rw[if_pos g] at he;exact he
    ·rw[if_neg g] at he;omega
   repeat' first|refine st ?_|refine⟨λ_=>?_,λ_=>?_⟩|fail
   refine F2 A4 C9n C8f (λ(k:Nat)=>[.d (eI k)]) (λk=>[.cells [.d (.str n),.d dc,.d dk,.d df,.d dx],.cells [.d fd,.d (.str tb)],.map (X8 (cs.take k))]) (λk=>k<=cs.length/\p9 l.length [] cs=p9 l.length (cs.take k) (cs.drop k)) (λk=>cs.length-k) 0 rfl rfl rfl rfl (λ_ _=>⟨rfl,(by rw[i6,i6,i6,D5w];rfl)⟩) rfl ⟨by omega,rfl⟩ ?_
   repeat' first|refine st ?_|refine⟨λ_=>?_,λ_=>?_⟩|fail
   intro k ⟨h6,h7⟩
   cases hy:cs[k]? with
   |some c=>
    have hlt2:=(A7.1 hy).1
    have hg2:=K5 hy
    have hH:=B34 n l hl dc dk df dx hc c
    rw[B9m hy] at h7
    obtain⟨kvs,hkv⟩:∃kvs,kvs=X8 (cs.take k):=⟨_,rfl⟩
    have m1:n5 .i (eI c) kvs:=by rw[hkv];exact A6F _ _ (B1O _)
    have hts:cs.take k++[c]=cs.take (k+1):=by rw[P1,hy];rfl
    by_cases hin:c∈cs.take k
    ·rw[if_neg (λh=>h.2 hin)] at h7
     have e25:=hcF2 h7
     rw[e25,if_neg (by decide)] at h5
     have e1:lkR false (zv false [.int .i64 0]) (J6 .i (eI c) kvs)=.d (eI 1):=by rw[hkv,B1J hin];rfl
     obtain⟨kv2,e2⟩:∃kv2,K9 .i (eI c) (.d (eI 2)) kvs=kv2:=⟨_,rfl⟩
     have m2:n5 .i (eI c) kv2:=by rw[<- e2,hkv];exact A6F _ _ (C0H (B1O _))
     have e3:lkR false (zv false [.int .i64 0]) (J6 .i (eI c) kv2)=.d (eI 2):=by rw[<- e2,B1K];rfl
     rw[<- hkv]
     rw[h5]
     by_cases hh:0<=c/\c<l.length
     ·rw[decide_eq_true hh] at hH
      repeat' first|refine st ?_|refine⟨λ_=>?_,λ_=>?_⟩|fail
      all_goals rfl
     ·rw[decide_eq_false hh] at hH
      repeat' first|refine st ?_|refine⟨λ_=>?_,λ_=>?_⟩|fail
      all_goals rfl
    ·have e1:lkR false (zv false [.int .i64 0]) (J6 .i (eI c) kvs)=.d (eI 0):=by rw[hkv,C0C hin];rfl
     have e2:K9 .i (eI c) (.d (eI 1)) kvs=X8 (cs.take (k+1)):=by rw[hkv,C0F hin,D5v,hts]
     have m2:n5 .i (eI c) (X8 (cs.take (k+1))):=A6F _ _ (B1O _)
     have e3:lkR false (zv false [.int .i64 0]) (J6 .i (eI c) (X8 (cs.take (k+1))))=.d (eI 1):=by rw[B1J (by rw[<- hts];simp)];rfl
     rw[<- hkv]
     by_cases hh:0<=c/\c<l.length
     ·rw[decide_eq_true hh] at hH
      rw[if_pos ⟨hh,hin⟩] at h7
      repeat' first|refine st ?_|refine⟨λ_=>?_,λ_=>?_⟩|fail
      exact⟨k+1,rfl,rfl,rfl,by omega,by omega,h7⟩
     ·rw[decide_eq_false hh] at hH
      rw[if_neg (λh=>hh h.1)] at h7
      have e25:=hcF2 h7
      rw[e25,if_neg (by decide)] at h5
      rw[h5]
      repeat' first|refine st ?_|refine⟨λ_=>?_,λ_=>?_⟩|fail
      all_goals rfl
   |none=>
    have hge2:=C8.1 hy
    rw[S1 hge2] at h7
    have h7:p9 l.length [] cs=0:=h7
    by_cases g:cs.length=0
    ·rw[if_pos g] at he
     rw[he,if_neg (by decide)] at h5
     rw[h5]
     repeat' first|refine st ?_|refine⟨λ_=>?_,λ_=>?_⟩|fail
     all_goals first|rfl|(exfalso;omega)
    ·rw[if_neg g,h7] at he
     rw[if_pos he] at h5
     repeat' first|refine st ?_|refine⟨λ_=>?_,λ_=>?_⟩|fail
     exact⟨i+1,rfl,rfl,rfl,by omega,by omega,h5⟩
 |none=>
  have hge:=C8.1 hx
  rw[S1 hge] at h5
  rw[h5]
  repeat' first|refine st ?_|refine⟨λ_=>?_,λ_=>?_⟩|fail
  all_goals rfl
end Go.Proofs
end
section
namespace Go.Proofs
open Go.Bi
def mx(l:List Nat):Nat:=l.foldl max 0
mutual
def L9:Ex->Nat
 |.mk op n v name nl args=>1+mx (A6c args)
def A6c:List Ex->List Nat
 |[]=>[]
 |e::es=>L9 e::A6c es
end
theorem B96:∀l,A6c l=l.map L9
 |[]=>by simp[A6c]
 |e::es=>by simp[A6c,B96 es]
theorem A2S(op n:Int)(v:Vl)(name:List UInt8)(nl:Bool)(args:List Ex):L9 (.mk op n v name nl args)=1+mx (args.map L9):=by rw[L9,B96]
theorem D5z{l:List Nat}{B:Nat}(h:∀x∈l,x<=B):mx l<=B:=by
 unfold mx
 have key:∀(l:List Nat) (a:Nat),a<=B->(∀x∈l,x<=B)->l.foldl max a<=B:=by
  intro l
  induction l with
  |nil=>intro a ha _;exact ha
  |cons x l ih=>intro a ha hl;exact ih (max a x) (by have:=hl x (by simp);omega) λy hy=>hl y (by simp[hy])
 exact key l 0 (R1 _) h
theorem D3D:∀e:Ex,L9 e<=e.bk:=by
 refine Ex.ind λop n v name nl args ih=>?_
 rw[A2S]
 have h1:mx (args.map L9)<=(Ex.mk op n v name nl args).bk-1:=D5z λx hx=>by
  obtain⟨a,ha,rfl⟩:=D9.1 hx
  have h2:=ih a ha
  have h3:=Ex.bk_arg (op:=op) (n:=n) (v:=v) (name:=name) (nl:=nl) ha
  omega
 have:=(Ex.mk op n v name nl args).bk_pos
 omega
theorem D4C{α β:Type}(f:β->α->β)(b:β)(l:List α)(i:Nat)(x:α)(h:l[i]?=some x):(l.take (i+1)).foldl f b=f ((l.take i).foldl f b) x:=by
 rw[P1,h];simp
theorem C0I{l:List Nat}{i x:Nat}(h:l[i]?=some x):mx (l.take (i+1))=max (mx (l.take i)) x:=D4C _ _ _ _ _ h
theorem C3z:∀e:Ex,e.bk<=1048576->∀m:Nat,1<=m->m<=25->Pure Tryz.prog B0m [e.av,.d (eI m)] (.d (eI (min m (L9 e):Nat))):=by
 refine Ex.ind λop n v name nl args ih hbk m hm1 hm2=>?_
 obtain⟨b1,b2,b3,b4⟩:=Ex.bk_bounds hbk
 have ih':∀a∈args,∀m:Nat,1<=m->m<=25->Pure Tryz.prog B0m [a.av,.d (eI m)] (.d (eI (min m (L9 a):Nat))):=λa ha=>ih a ha (b4 a ha)
 clear ih
 rw[Ex.av_mk,A2S]
 refine C6a.go A4 rfl ?_
 have hlen:=I7 args
 have hm:=O7 args
 have hd:B3 (ng nl (xL args)) (xL args):=t7
 have hget:∀(i:Nat) (op' n':Int) (v':Vl) (name':List UInt8) (nl':Bool) (args':List Ex),args[i]?=some (.mk op' n' v' name' nl' args')->(xL args)[i]?=some (W6 op' n' v' name' (ng nl' (xL args'))):=λi op' n' v' name' nl' args' h=>by
  rw[<- Ex.ds_mk];exact t8 h
 obtain⟨d,hde⟩:∃d,d=ng nl (xL args):=⟨_,rfl⟩
 rw[<- hde] at hd ⊢
 obtain⟨es,hes⟩:∃es,es=xL args:=⟨_,rfl⟩
 rw[<- hes] at hlen hm hd hget
 by_cases h1:m=1
 ·subst h1
  rw[show min 1 (1+mx (args.map L9))=1 by omega]
  repeat' first|refine st ?_|((with_reducible apply C4);conv=>whnf)|refine⟨λ_=>?_,λ_=>?_⟩|fail
  all_goals rfl
 have h2:¬(m:Int)<=1:=by omega
 repeat' first|refine st ?_|((with_reducible apply C4);conv=>whnf)|refine⟨λ_=>?_,λ_=>?_⟩|fail
 refine I2 A4 C9b C83 (λ(i:Nat) (t:Nat)=>[.d (eI t),.d (eI i)]) (λi t=>[.cells [.d (eI op),.d (eI n),.d (eI v.k),.d (eI v.n),.d (.str v.s),.d (.str name),.d d]]) (λi t=>i<=args.length/\t=min m (1+mx ((args.map L9).take i))) (λi _=>args.length-i) 0 1 rfl rfl rfl rfl (λ_ _ _=>⟨rfl,rfl⟩) rfl ⟨by omega,by simp[mx];omega⟩ ?_
 repeat' first|refine st ?_|((with_reducible apply C4);conv=>whnf)|refine⟨λ_=>?_,λ_=>?_⟩|fail
 intro i t ⟨h4,h5⟩
 cases hx:args[i]? with
 |some x=>
  have hlt:=(A7.1 hx).1
  have hI:=ih' x (B9 hx) (m-1) (by omega) (by omega)
  have hmx:=C0I (l:=args.map L9) (i:=i) (x:=L9 x) (by rw[F8,hx];rfl)
  rw[show((m-1:Nat):Int)=(m:Int)-1 by omega] at hI
  obtain⟨y,hy⟩:∃y,y=L9 x:=⟨_,rfl⟩
  rw[<- hy] at hI hmx
  obtain⟨op',n',v',name',nl',args'⟩:=x
  rw[Ex.av_mk] at hI
  have hg:=hget i _ _ _ _ _ _ hx
  repeat' first|refine st ?_|((with_reducible apply C4);conv=>whnf)|refine⟨λ_=>?_,λ_=>?_⟩|fail
  refine⟨i+1,max t (1+min (m-1) y),?_,rfl,rfl,by omega,by omega,?_⟩
  ·simp only[List.cons.injEq,AV.d.injEq,D.int.injEq,true_and,and_true]
   omega
  ·rw[hmx];omega
 |none=>
  have hge:=C8.1 hx
  rw[J5 (by simpa using hge)] at h5
  repeat' first|refine st ?_|((with_reducible apply C4);conv=>whnf)|refine⟨λ_=>?_,λ_=>?_⟩|fail
  rw[h5]
theorem C3x(e:Ex)(he:e.bk<=1048576):Pure Tryz.prog B7p [e.av] (.d (eI (min 25 (L9 e):Nat))):=by
 have h:=C3z e he 25 (by omega) (by omega)
 obtain⟨op,n,v,name,nl,args⟩:=e
 rw[Ex.av_mk] at h ⊢
 refine C62.go A4 rfl ?_
 repeat' first|refine st ?_|((with_reducible apply C4);conv=>whnf)|refine⟨λ_=>?_,λ_=>?_⟩|fail
theorem C3W:∀e:Ex,e.bk<=1048576->Pure Tryz.prog B05 [e.av] (.d (eI (L9 e:Nat))):=by
 refine Ex.ind λop n v name nl args ih hbk=>?_
 have hdb:=D3D (.mk op n v name nl args)
 obtain⟨b1,b2,b3,b4⟩:=Ex.bk_bounds hbk
 have ih':∀a∈args,Pure Tryz.prog B05 [a.av] (.d (eI (L9 a:Nat))):=λa ha=>ih a ha (b4 a ha)
 clear ih
 rw[A2S] at hdb
 rw[Ex.av_mk,A2S]
 refine C5o.go A4 rfl ?_
 have hlen:=I7 args
 have hm:=O7 args
 have hd:B3 (ng nl (xL args)) (xL args):=t7
 have hget:∀(i:Nat) (op' n':Int) (v':Vl) (name':List UInt8) (nl':Bool) (args':List Ex),args[i]?=some (.mk op' n' v' name' nl' args')->(xL args)[i]?=some (W6 op' n' v' name' (ng nl' (xL args'))):=λi op' n' v' name' nl' args' h=>by
  rw[<- Ex.ds_mk];exact t8 h
 obtain⟨d,hde⟩:∃d,d=ng nl (xL args):=⟨_,rfl⟩
 rw[<- hde] at hd ⊢
 obtain⟨es,hes⟩:∃es,es=xL args:=⟨_,rfl⟩
 rw[<- hes] at hlen hm hd hget
 repeat' first|refine st ?_|((with_reducible apply C4);conv=>whnf)|refine⟨λ_=>?_,λ_=>?_⟩|fail
 refine I2 A4 C8x C7p (λ(i:Nat) (t:Nat)=>[.d (eI t),.d (eI i)]) (λi t=>[.cells [.d (eI op),.d (eI n),.d (eI v.k),.d (eI v.n),.d (.str v.s),.d (.str name),.d d]]) (λi t=>i<=args.length/\t=mx ((args.map L9).take i)) (λi _=>args.length-i) 0 0 rfl rfl rfl rfl (λ_ _ _=>⟨rfl,rfl⟩) rfl ⟨by omega,rfl⟩ ?_
 repeat' first|refine st ?_|((with_reducible apply C4);conv=>whnf)|refine⟨λ_=>?_,λ_=>?_⟩|fail
 intro i t ⟨h4,h5⟩
 cases hx:args[i]? with
 |some x=>
  have hlt:=(A7.1 hx).1
  have hI:=ih' x (B9 hx)
  have hmx:=C0I (l:=args.map L9) (i:=i) (x:=L9 x) (by rw[F8,hx];rfl)
  obtain⟨y,hy⟩:∃y,y=L9 x:=⟨_,rfl⟩
  rw[<- hy] at hI hmx
  obtain⟨op',n',v',name',nl',args'⟩:=x
  rw[Ex.av_mk] at hI
  have hg:=hget i _ _ _ _ _ _ hx
  repeat' first|refine st ?_|((with_reducible apply C4);conv=>whnf)|refine⟨λ_=>?_,λ_=>?_⟩|fail
  refine⟨i+1,max t y,?_,rfl,rfl,by omega,by omega,?_⟩
  ·simp only[List.cons.injEq,AV.d.injEq,D.int.injEq,true_and,and_true]
   omega
  ·rw[hmx,h5]
 |none=>
  have hge:=C8.1 hx
  rw[J5 (by simpa using hge)] at h5
  repeat' first|refine st ?_|((with_reducible apply C4);conv=>whnf)|refine⟨λ_=>?_,λ_=>?_⟩|fail
  rw[h5]
  simp only[AV.d.injEq,D.int.injEq,true_and]
  omega
end Go.Proofs
end
section
namespace Go.Proofs
open Go.Bi
def S4(op n:Int):Bool×Bool:=
 if op=1\/op=2 then (decide (n=0),true)
 else if op=4\/op=18\/op=20\/op=21 then (decide (n=1),true)
 else if op=7\/op=8\/op=9\/op=10\/op=11\/op=12\/op=13\/op=14\/op=15\/op=16\/op=17\/op=19 then (decide (n=2),true)
 else if op=5\/op=6 then (decide (2<=n),true)
 else if op=22 then (decide (n=3),true)
 else if op=23 then (decide (1<=n),true)
 else if op=24 then (decide (n=4),true) else (false,false)
theorem B2K(op n:Int):Pure Tryz.prog B0l [.d (eI op),.d (eI n)] (.tup [.d (.bool (S4 op n).1),.d (.bool (S4 op n).2)]):=by
 refine C69.go A4 rfl ?_
 repeat' first|refine st ?_|refine⟨λ_=>?_,λ_=>?_⟩|fail
 all_goals first
  |(subst_vars;rfl)
  |(simp only[S4];rw[if_neg (by omega),if_neg (by omega),if_neg (by omega),if_neg (by omega),if_neg (by omega),if_neg (by omega),if_neg (by omega)])
def m5(op:Int):Int×Int:=
 if op=1\/op=2 then (0,0)
 else if op=4\/op=18\/op=20\/op=21 then (1,1)
 else if op=7\/op=8\/op=9\/op=10\/op=11\/op=12\/op=13\/op=14\/op=15\/op=16\/op=17\/op=19 then (2,2)
 else if op=5\/op=6 then (2,1099511627776)
 else if op=22 then (3,3)
 else if op=23 then (1,1099511627776)
 else if op=24 then (4,4) else (-1,0)
theorem B2Q(op:Int):Pure Tryz.prog B02 [.d (eI op)] (.tup [.d (eI (m5 op).1),.d (eI (m5 op).2)]):=by
 refine C5g.go A4 rfl ?_
 repeat' first|refine st ?_|refine⟨λ_=>?_,λ_=>?_⟩|fail
 all_goals first
  |(subst_vars;rfl)
  |(simp only[m5];rw[if_neg (by omega),if_neg (by omega),if_neg (by omega),if_neg (by omega),if_neg (by omega),if_neg (by omega),if_neg (by omega)])
theorem B8o(op:Int)(k:Nat)(hk:k<=1048576):(S4 op k).1=decide (¬((m5 op).1<0\/(k:Int)<(m5 op).1\/(m5 op).2<(k:Int)))/\(S4 op k).2=decide (¬(m5 op).1<0):=by
 unfold S4 m5
 repeat' split
 all_goals (constructor<;>(rw[A0U];simp;try omega))
end Go.Proofs
end
