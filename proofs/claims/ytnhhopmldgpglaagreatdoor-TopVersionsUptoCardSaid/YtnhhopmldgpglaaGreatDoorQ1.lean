/- Texts of this claim, joined. No condition. -/
import Derived.Test.YtnhhopmldgpglaaGreatDoorBi
import Derived.Test.YtnhhopmldgpglaaGreatDoorIc0
import Derived.Test.YtnhhopmldgpglaaGreatDoorIc1
import Derived.Test.YtnhhopmldgpglaaGreatDoorIc2
import Derived.Lib.Strings
import Derived.Lib.Slices
import Derived.Lib.Walk
import Derived.Lib.Bytealg
set_option linter.unusedSimpArgs false
set_option linter.unusedVariables false
set_option maxRecDepth 10000
set_option maxHeartbeats 4000000
section
namespace Go.Bi
open Go
section
variable {P:Program}{n nb:Nat}{M:C4}{G:Gh}{os:List AO}{w:World}{ρ:C6}{a:Act}
def A65(Q:AV->List AO->Prop)(rs:List RV)(ρ:C6)(os:List AO):Prop:=e9 ρ os rs λl=>match l with
 |[v]=>Q v os
 |_=>False
def A63(Q:AV->List AO->Prop)(rs:List RV)(L:Sl)(os:List AO):Prop:=A3p L os rs λl=>match l with
 |[v]=>Q v os
 |_=>False
theorem B8k{Q:AV->List AO->Prop}{rs:List RV}{L:Sl}{os:List AO}(h:A63 Q rs L os):A65 Q rs (D2 L) os:=A4t h
theorem D1b{c:s4}(hR:W4 n nb c M G os w ρ a){fn:Func}{rs:List RV}(hrs:fn.results.toList.mapM (cRV P)=some rs){Q:AV->List AO->Prop}(h:A65 Q rs ρ os) :
  ∃v,(results fn a.tmps).run P w=.ok v w/\∃M' G' r os',C1 M' G' os' w/\D9 c.M c.G c.os c.w M' G' os' w/\VA M' G' os' r v/\Q r os':=by
 obtain⟨l,vs,h1,h2,h3,h4⟩:=A7K hR.env hR.tmps _ rs hrs _ h
 match l,h1,h3,h4 with
 |[x],h1,h3,h4=>
  simp only[L0,m7] at h3
  refine⟨_,B0w h2,M,G,x,os,hR.env,hR.since,?_,h1⟩
  rw[dif_pos (by omega)]
  exact h4 0 x vs[0] rfl (C5 (by omega))
theorem C9k(hm:P.follows .mixedOrders=true){f:FuncId}{fn:Func}{code:Code}{ic:IC}{rs:List RV}(hf:P.funcs[f]?=some fn)(hname:fn.name≠ "runtime.NumGoroutine")(hb:fn.body=some code)(hc:cC P fn.ntmps code=some ic)
  (hrs:fn.results.toList.mapM (cRV P)=some rs) {args:List AV} {bs:List AO} (hargs:args.length<=fn.ntmps) {Q:AV->List AO->Prop}
  (h:V9 P fn.ntmps bs.length ic {norm:=A65 Q rs,exit:=λ_ _ _=>False,ret:=A65 Q rs} (A16 args) bs):B4 P f args bs Q:=by
 refine⟨⟨fn,hf,by rw[hb];rfl,hname⟩,λM G w vs he hl hv=>?_⟩
 refine calls_of_wp hf hb (wp_mono (A6l hm code ic hc _ _ _ h ⟨M,G,bs,w⟩ M G w {tmps:=vs++Array.replicate (fn.ntmps-vs.size) undef,defers:=[]} ?_) λe a' w' hp=>?_)
 ·exact {
   env:=he,since:=D9.refl ..,size:=by simp;omega,defers:=rfl,base:=rfl
   tmps:=λt=>by
    unfold A16
    by_cases ht:t<args.length
    ·have h1:(vs++Array.replicate (fn.ntmps-vs.size) undef).getD t undef=vs[t]:=by
      simp[A1B (show t<vs.size by omega),show t<vs.size by omega]
     have h2:args.getD t .junk=args[t]:=by simp[ht]
     show VA M G bs (args.getD t .junk) ((vs++Array.replicate (fn.ntmps-vs.size) undef).getD t undef)
     rw[h1,h2]
     have:=hv t args[t] vs[t] (C5 ht) (J1 (by omega))
     generalize args[t]=c at this
     cases c with
     |tup cs=>exact this.elim
     |junk=>trivial
     |_=>exact this
    ·have:args.getD t .junk=.junk:=by simp[F7,A00 (Nat.le_of_not_lt ht)]
     rw[this]
     trivial}
 ·have fin:z8 fn.ntmps bs.length ⟨M,G,bs,w⟩ (A65 Q rs) a' w'->a'.defers=[]/\∃v,(results fn a'.tmps).run P w'=.ok v w'/\∃v',Ending.returned v=.returned v'/\∃M' G' r os',C1 M' G' os' w'/\D9 M G bs w M' G' os' w'/\VA M' G' os' r v'/\Q r os':=by
   rintro⟨M',G',os',ρ',hR,hk⟩
   obtain⟨v,h1,h2⟩:=D1b hR hrs hk
   exact⟨hR.defers,v,h1,v,rfl,h2⟩
  cases e with
  |normal=>exact fin hp
  |ret=>exact fin hp
  |exit id=>obtain⟨_,_,_,_,_,hk⟩:=hp;exact hk.elim
  |_=>exact hp.elim
end
theorem C2.goO{P:Program}(hm:P.follows .mixedOrders=true){f n:Nat}{ic:IC}{rs:List RV}(h:C2 P f n ic rs){args:List AV}{bs:List AO}(hargs:Nat.ble args.length n=true){Q:AV->List AO->Prop}
  (hw:Go (xI P n bs.length ic (A63 Q rs) (λ_ _ _=>False) (A63 Q rs) (A0w 0 args) bs)):B4 P f args bs Q:=by
 obtain⟨fn,h1,h2,h3,h4,h5⟩:=h
 obtain⟨code,hb,hc⟩:=Y4.1 h4
 subst h2
 refine C9k hm h1 (by simpa using h3) hb hc h5 (P9 hargs) ?_
 rw[B0d]
 exact A3o (K:=⟨A63 Q rs,λ_ _ _=>False,A63 Q rs⟩) ⟨λL os h=>B8k h,λ_ _ _ h=>h,λL os h=>B8k h⟩ hw
theorem B4.alone{P:Program}{g:FuncId}{args:List AV}{Q:AV->List AO->Prop}(h:B4 P g args [] Q)(hd:∀a∈args,∃x,a=.d x)(os:List AO) :
  B4 P g args os (λr os'=>∃r0 os0,Q r0 os0/\r=mA (rn [] os.length) r0/\os'=os++os0.map (mO (rn [] os.length))):=by
 have:=B4.frame (K:=λr os'=>∃r0 os0,Q r0 os0/\r=mA (rn [] os.length) r0/\os'=os++os0.map (mO (rn [] os.length))) h [] os rfl (by simp) (λi x hx=>by simp at hx)
  (λa ha=>by obtain⟨x,rfl⟩:=hd a ha;trivial) (λx hx=>by simp at hx) (λr bs' hq=>⟨r,bs',hq,rfl,rfl⟩)
 have e:args.map (mG (rn [] os.length))=args:=by
  rw[S7 (g:=id) (λa ha=>by obtain⟨x,rfl⟩:=hd a ha;rfl),w4]
 rwa [e] at this
end Go.Bi
end
section
namespace Go.Proofs
open Go.Bi
abbrev eI(n:Int):D:=.int .i64 n
def A0(l:List Int):List (List D):=l.map λr=>[eI r]
theorem O2{l:List Int}{i:Nat}{r:Int}(h:l[i]?=some r):(A0 l)[i]?=some [eI r]:=by simp[A0,h]
theorem B6(l:List Int):(A0 l).length=l.length:=by simp[A0]
theorem D4(l:List Int):∀e∈A0 l,e.length=1:=by
 intro e he
 obtain⟨x,_,rfl⟩:=E6.1 he
 rfl
theorem A2W{α:Type}{f:α->Bool}{l:List α}{i:Nat}{x:α}(h:l[i]?=some x):(l.take (i+1)).all f=((l.take i).all f&&f x):=by
 simp only[S0,h,List.all_append,Option.toList,Y3,List.all_nil,Bool.and_true]
theorem A3F{α:Type}{f:α->Bool}{l:List α}{i:Nat}{x:α}(h:l[i]?=some x)(hx:f x=false):l.all f=false:=by
 rw[A4w]
 intro ha
 rw[N9.1 ha x (C3 h)] at hx
 cases hx
def valid(a b:Int):Bool:=decide (0<=a/\a<b/\b<=1099511627776)
set_option maxRecDepth 100000 in
abbrev A09(a b:List UInt8):Int:=Lib.compareBytes a b
def A2f(a b:Int):Int:=if a<b then -1 else if b<a then 1 else 0
def or3(a b c:Int):Int:=if a≠0 then a else if b≠0 then b else c
structure Vl where
 k:Int
 n:Int
 s:List UInt8
 deriving DecidableEq
abbrev Vl.ds(v:Vl):List D:=[eI v.k,eI v.n,.str v.s]
abbrev eV(v:Vl):AV:=.agg [.d (eI v.k),.d (eI v.n),.d (.str v.s)]
def K4:Vl:=⟨0,0,[]⟩
def prC(c:UInt8):Bool:=decide (32<=c.toNat/\c.toNat<=126)
def c9(s:List UInt8):Bool:=s.all prC
def N6(v:Vl):Bool:=
 if v.k=0 then decide (v.n=0/\v.s=[])
 else if v.k=1 then decide (v.s=[]/\-1125899906842624<=v.n/\v.n<=1125899906842624)
 else if v.k=2 then decide (v.n=0/\v.s.length<=200)&&c9 v.s
 else if v.k=3 then decide (v.s=[]/\(v.n=0\/v.n=1)) else false
theorem B1p(s:List UInt8)(hs:s.length<=4611686018427387904):Pure Tryz.prog A91 [.d (.str s)] (.d (.bool (c9 s))):=by
 refine C2X.go A6 rfl ?_
 repeat' first|refine st ?_|((with_reducible apply D1);conv=>whnf)|(with_reducible first|apply A5|apply A4)<;>intro _
 refine G6 A6 C4Y C48 (λ(i:Nat)=>[.d (eI i)]) (λi=>[]) (λi=>i<=s.length/\(s.take i).all prC=true) (λi=>s.length-i) 0 rfl rfl rfl rfl (λ_ _=>⟨rfl,rfl⟩) rfl ⟨by omega,rfl⟩ ?_
 repeat' first|refine st ?_|((with_reducible apply D1);conv=>whnf)|(with_reducible first|apply A5|apply A4)<;>intro _
 intro i ⟨h1,h2⟩
 cases hx:s[i]? with
 |some c=>
  have hlt:=(B2.1 hx).1
  have hg:s.getD ((i:Int)).toNat 0=c:=by simp[F7,hx]
  repeat' first|refine st ?_|((with_reducible apply D1);conv=>whnf)|(with_reducible first|apply A5|apply A4)<;>intro _
  ·rename_i h
   rw[hg] at h
   rw[c9,A3F hx (decide_eq_false (by omega))]
  ·rename_i h h'
   rw[hg] at h h'
   rw[c9,A3F hx (decide_eq_false (by omega))]
  ·rename_i h h'
   rw[hg] at h h'
   refine⟨i+1,rfl,rfl,rfl,by omega,by omega,?_⟩
   rw[A2W hx,h2,prC,decide_eq_true (by omega)];rfl
 |none=>
  have hge:=E4.1 hx
  rw[P2 hge] at h2
  repeat' first|refine st ?_|((with_reducible apply D1);conv=>whnf)|(with_reducible first|apply A5|apply A4)<;>intro _
  rw[c9,h2]
theorem C0Y(s:List UInt8)(hs:s.length<=4611686018427387904):Pure Tryz.prog B3W [.d (.str s)] (.d (.bool (c9 s))):=by
 refine C1z.go A6 rfl ?_
 repeat' first|refine st ?_|((with_reducible apply D1);conv=>whnf)|(with_reducible first|apply A5|apply A4)<;>intro _
 refine G6 A6 C49 C3j (λ(i:Nat)=>[.d (eI i)]) (λi=>[]) (λi=>i<=s.length/\(s.take i).all prC=true) (λi=>s.length-i) 0 rfl rfl rfl rfl (λ_ _=>⟨rfl,rfl⟩) rfl ⟨by omega,rfl⟩ ?_
 repeat' first|refine st ?_|((with_reducible apply D1);conv=>whnf)|(with_reducible first|apply A5|apply A4)<;>intro _
 intro i ⟨h1,h2⟩
 cases hx:s[i]? with
 |some c=>
  have hlt:=(B2.1 hx).1
  have hg:s.getD ((i:Int)).toNat 0=c:=by simp[F7,hx]
  repeat' first|refine st ?_|((with_reducible apply D1);conv=>whnf)|(with_reducible first|apply A5|apply A4)<;>intro _
  ·rename_i h
   rw[hg] at h
   rw[c9,A3F hx (decide_eq_false (by omega))]
  ·rename_i h h'
   rw[hg] at h h'
   rw[c9,A3F hx (decide_eq_false (by omega))]
  ·rename_i h h'
   rw[hg] at h h'
   refine⟨i+1,rfl,rfl,rfl,by omega,by omega,?_⟩
   rw[A2W hx,h2,prC,decide_eq_true (by omega)];rfl
 |none=>
  have hge:=E4.1 hx
  rw[P2 hge] at h2
  repeat' first|refine st ?_|((with_reducible apply D1);conv=>whnf)|(with_reducible first|apply A5|apply A4)<;>intro _
  rw[c9,h2]
theorem A4G(v:Vl)(hs:v.s.length<=4611686018427387904):Pure Tryz.prog A72 [eV v] (.d (.bool (N6 v))):=by
 refine C2V.go A6 rfl ?_
 have hP:=B1p v.s hs
 repeat' first|refine st ?_|((with_reducible apply D1);conv=>whnf)|((with_reducible first|apply A9|apply A8);(·exact hP))|(with_reducible first|apply A5|apply A4)<;>intro _
 all_goals (simp_all[N6]<;>omega)
theorem B1i(v:Vl)(hs:v.s.length<=4611686018427387904):Pure Tryz.prog A8u [eV v] (.d (.bool (N6 v))):=by
 refine C1A.go A6 rfl ?_
 have hP:=C0Y v.s hs
 repeat' first|refine st ?_|((with_reducible apply D1);conv=>whnf)|((with_reducible first|apply A9|apply A8);(·exact hP))|(with_reducible first|apply A5|apply A4)<;>intro _
 all_goals (simp_all[N6]<;>omega)
theorem A3t:Pure Tryz.prog A1F [] (eV K4):=by
 refine C2T.go A6 rfl ?_
 repeat' first|refine st ?_|((with_reducible apply D1);conv=>whnf)|(with_reducible first|apply A5|apply A4)<;>intro _
 all_goals rfl
theorem A2G:Pure Tryz.prog A4Y [] (eV K4):=by
 refine C1y.go A6 rfl ?_
 repeat' first|refine st ?_|((with_reducible apply D1);conv=>whnf)|(with_reducible first|apply A5|apply A4)<;>intro _
 all_goals rfl
def A4p(b:Bool):Vl:=⟨3,if b then 1 else 0,[]⟩
theorem C1p(b:Bool):Pure Tryz.prog A56 [.d (.bool b)] (eV (A4p b)):=by
 refine C2S.go A6 rfl ?_
 repeat' first|refine st ?_|((with_reducible apply D1);conv=>whnf)|(with_reducible first|apply A5|apply A4)<;>intro _
 all_goals simp_all[A4p]
def A2D(v:Vl):Vl:=if N6 v then v else K4
theorem C1t(v:Vl)(hs:v.s.length<=4611686018427387904):Pure Tryz.prog B4V [eV v] (eV (A2D v)):=by
 refine C2W.go A6 rfl ?_
 have hV:=A4G v hs
 repeat' first|refine st ?_|((with_reducible apply D1);conv=>whnf)|((with_reducible first|apply A9|apply A8);(·first|exact hV|exact A3t))|(with_reducible first|apply A5|apply A4)<;>intro _
 all_goals simp_all[A2D]
def B92(s:List UInt8):Vl:=A2D ⟨2,0,s⟩
theorem C1s(s:List UInt8)(hs:s.length<=4611686018427387904):Pure Tryz.prog B4U [.d (.str s)] (eV (B92 s)):=by
 refine C2U.go A6 rfl ?_
 have hV:=C1t ⟨2,0,s⟩ hs
 repeat' first|refine st ?_|((with_reducible apply D1);conv=>whnf)|((with_reducible first|apply A9|apply A8);(·exact hV))|(with_reducible first|apply A5|apply A4)<;>intro _
 all_goals rfl
end Go.Proofs
end
section
set_option maxRecDepth 100000
set_option maxHeartbeats 8000000
namespace Go.Proofs
open Go.Bi
def A1w:List (List UInt8):=[[97,100,100],[97,102,116,101,114],[97,108,108],[97,108,116,101,114],[97,110,100],[97,115],[98,101,102,111,114,101],[98,101,103,105,110],[98,101,116,119,101,101,110],[98,111,111,108],[98,121],[99,104,101,99,107],[99,111,97,108,101,115,99,101],[99,111,109,109,105,116],[99,111,110,116,97,105,110,115],[99,111,117,110,116],[99,114,101,97,116,101],[100,101,102,97,117,108,116],[100,101,108,101,116,101],[100,101,115,99],[100,105,115,116,105,110,99,116],[100,114,111,112],[100,117,114,105,110,103],[101,113,117,97,108,115],[101,120,99,101,112,116],[102,97,108,115,101],[102,105,110,105,115,104,101,100,98,121],[102,105,110,105,115,104,101,115],[102,111,114,101,105,103,110],[102,111,114,101,118,101,114],[102,114,111,109],[103,114,111,117,112],[104,111,108,100],[105,102],[105,110,115,101,114,116],[105,110,116],[105,110,116,101,114,115,101,99,116],[105,110,116,111],[105,115],[106,111,105,110],[107,101,121],[108,101,102,116],[108,101,110,103,116,104],[108,105,109,105,116],[109,97,120],[109,101,101,116,115],[109,101,116,98,121],[109,105,110],[110,111,110,115,101,113,117,101,110,99,101,100],[110,111,116],[110,111,119],[110,117,108,108],[111,102],[111,110],[111,114],[111,114,100,101,114],[111,118,101,114,108,97,112,112,101,100,98,121],[111,118,101,114,108,97,112,115],[112,114,105,109,97,114,121],[112,114,117,110,101],[114,101,102,101,114,101,110,99,101,115],[114,101,108,101,97,115,101],[114,101,110,97,109,101],[114,101,116,97,105,110],[114,111,108,108,98,97,99,107],[115,101,108,101,99,116],[115,101,113,117,101,110,99,101,100],[115,101,116],[115,116,97,114,116,101,100,98,121],[115,116,97,114,116,115],[115,117,109],[115,121,115,116,101,109],[115,121,115,116,101,109,102,114,111,109],[115,121,115,116,101,109,116,111],[116,97,98,108,101],[116,101,120,116],[116,111],[116,114,117,101],[116,120],[117,110,100,101,114],[117,110,105,111,110],[117,112,100,97,116,101],[118,97,108,105,100],[118,97,108,105,100,102,114,111,109],[118,97,108,105,100,116,111],[118,97,108,117,101,115],[119,104,101,114,101]]
def eSs(l:List (List UInt8)):List (List D):=l.map λs=>[.str s]
theorem C8O(l:List (List UInt8)):(eSs l).length=l.length:=by simp[eSs]
theorem C8N{l:List (List UInt8)}{i:Nat}{s:List UInt8}(h:l[i]?=some s):(eSs l)[i]?=some [.str s]:=by simp[eSs,h]
theorem C8P(l:List (List UInt8)):∀e∈eSs l,e.length=1:=by
 intro e he
 obtain⟨x,_,rfl⟩:=E6.1 he
 rfl
theorem C18(s:List UInt8):Pure Tryz.prog B4I [.d (.str s)] (.d (.bool (decide (s∈A1w)))):=by
 refine C2J.go A6 rfl ?_
 obtain⟨b,hb⟩:∃b,b=decide (s∈A1w):=⟨_,rfl⟩
 rw[<- hb]
 repeat' first|refine st ?_|(with_reducible first|apply A5|apply A4)<;>intro _
 all_goals first
  |(subst_vars;rfl)
  |(rw[hb,decide_eq_false];simp[A1w, *])
theorem C0Q:Pure Tryz.prog B46 [] (.d (.sl (eSs A1w))):=by
 refine C1U.go A6 rfl ?_
 repeat' first|refine st ?_|(with_reducible first|apply A5|apply A4)<;>intro _
 all_goals rfl
theorem C0U(l:List (List UInt8))(hl:l.length<=1048576)(d:D)(hd:B8 d (eSs l))(s:List UInt8):Pure Tryz.prog B4b [.d d,.d (.str s)] (.d (.bool (decide (s∈l)))):=by
 refine C1Z.go A6 rfl ?_
 have h1:=C8O l
 have hm:=C8P l
 obtain⟨b,hb⟩:∃b,b=decide (s∈l):=⟨_,rfl⟩
 rw[<- hb]
 repeat' first|refine st ?_|(with_reducible first|apply A5|apply A4)<;>intro _
 refine G6 A6 C4r C3B (λ(i:Nat)=>[.d (eI i)]) (λi=>[]) (λi=>i<=l.length/\¬s∈l.take i) (λi=>l.length-i) 0 rfl rfl rfl rfl (λ_ _=>⟨rfl,rfl⟩) rfl ⟨by omega,by simp⟩ ?_
 repeat' first|refine st ?_|(with_reducible first|apply A5|apply A4)<;>intro _
 intro i ⟨h2,h3⟩
 cases hx:l[i]? with
 |some x=>
  have hlt:=(B2.1 hx).1
  have hg:=C8N hx
  by_cases h:x=s
  ·rw[hb,decide_eq_true (h▸C3 hx)]
   repeat' first|refine st ?_|(with_reducible first|apply A5|apply A4)<;>intro _
   all_goals rfl
  ·repeat' first|refine st ?_|(with_reducible first|apply A5|apply A4)<;>intro _
   refine⟨i+1,rfl,rfl,rfl,by omega,by omega,?_⟩
   rw[S0,hx]
   intro hmem
   rcases R3.1 hmem with hm2|hm2
   ·exact h3 hm2
   ·simp at hm2;exact h hm2.symm
 |none=>
  have hge:=E4.1 hx
  rw[P2 hge] at h3
  rw[hb,decide_eq_false h3]
  repeat' first|refine st ?_|(with_reducible first|apply A5|apply A4)<;>intro _
  all_goals rfl
def l7(p:UInt8×Nat):Bool:=decide (97<=p.1.toNat/\p.1.toNat<=122)||decide (p.1.toNat=95)||(decide (48<=p.1.toNat/\p.1.toNat<=57)&&decide (p.2≠0))
def okS(s:List UInt8):Bool:=s.zipIdx.all l7
def L6(s:List UInt8):Bool:=okS s&&decide (1<=s.length/\s.length<=24)&&!decide (s∈A1w)
theorem A89{s:List UInt8}{i:Nat}{c:UInt8}(h:s[i]?=some c):s.zipIdx[i]?=some (c,i):=by
 rw[List.getElem?_zipIdx,h];simp
theorem C8z{s:List UInt8}{p:Nat}{c:UInt8}(h:s[p]?=some c)(hc:c.toNat<128):Utf8.decode ⟨⟨s⟩⟩ p=(c.toNat,1):=by
 have e:(ByteArray.mk ⟨s⟩).get! (p+0)=c:=by
  obtain⟨hlt,he⟩:=B2.1 h
  show(⟨s⟩:Array UInt8)[p]! = c
  rw[getElem!_pos (⟨s⟩:Array UInt8) p hlt]
  exact he
 unfold Utf8.decode
 simp only[e]
 rw[if_pos hc]
theorem C8y{s:List UInt8}{p:Nat}{c:UInt8}(h:s[p]?=some c)(hc:¬c.toNat<128):128<=(Utf8.decode ⟨⟨s⟩⟩ p).1/\(Utf8.decode ⟨⟨s⟩⟩ p).1<=1114111:=by
 have e:(ByteArray.mk ⟨s⟩).get! (p+0)=c:=by
  obtain⟨hlt,he⟩:=B2.1 h
  show(⟨s⟩:Array UInt8)[p]! = c
  rw[getElem!_pos (⟨s⟩:Array UInt8) p hlt]
  exact he
 unfold Utf8.decode
 simp only[e]
 rw[if_neg hc]
 have hv:∀n:Nat,Utf8.valid n=true->n<=1114111:=λn h=>by
  simp only[Utf8.valid,A3r,K7,decide_eq_true_eq] at h
  omega
 repeat' split
 all_goals simp only[Utf8.runeError]
 all_goals first|omega|(rename_i h1;simp only[K7,decide_eq_true_eq] at h1;exact⟨by omega,hv _ h1.2⟩)|skip
end Go.Proofs
end
section
namespace Go.Proofs
open Go.Bi
attribute [local irreducible] Go.Utf8.decode
theorem A2t(c:UInt8)(p:Nat):l7 (c,p)=true↔(97<=c.toNat/\c.toNat<=122)\/c.toNat=95\/(48<=c.toNat/\c.toNat<=57/\p≠0):=by
 simp only[l7,A3r,K7,decide_eq_true_eq]
 omega
theorem A5W{s:List UInt8}{p:Nat}{c:UInt8}(h:s[p]?=some c)(hk:l7 (c,p)=false):L6 s=false:=by
 have:okS s=false:=A3F (A89 h) hk
 rw[L6,this];rfl
theorem A4E(s:List UInt8)(hs:s.length<=1048576):Pure Tryz.prog B4F [.d (.str s)] (.d (.bool (L6 s))):=by
 refine C2C.go A6 rfl ?_
 have hR:=C18 s
 obtain⟨b,hb⟩:∃b,b=L6 s:=⟨_,rfl⟩
 rw[<- hb]
 obtain⟨r,hr⟩:∃r,r=decide (s∈A1w):=⟨_,rfl⟩
 rw[<- hr] at hR
 repeat' first|refine st ?_|(with_reducible first|apply A5|apply A4)<;>intro _
 refine G6 A6 C4O C3Y (λ(p:Nat)=>[]) (λp=>[.iter s p]) (λp=>p<=s.length/\(s.zipIdx.take p).all l7=true) (λp=>s.length-p) 0 rfl rfl rfl rfl (λ_ _=>⟨rfl,rfl⟩) rfl ⟨by omega,by simp⟩ ?_
 repeat' first|refine st ?_|(with_reducible first|apply A5|apply A4)<;>intro _
 intro p ⟨h1,h2⟩
 cases hx:s[p]? with
 |some c=>
  have hlt:=(B2.1 hx).1
  have hz:=A89 hx
  by_cases hc:c.toNat<128
  ·have e:=C8z hx hc
   have e1:(Utf8.decode ⟨⟨s⟩⟩ p).1=c.toNat:=by rw[e]
   have e2:(Utf8.decode ⟨⟨s⟩⟩ p).2=1:=by rw[e]
   cases hk:l7 (c,p) with
   |true=>
    have hs2:=A2W (f:=l7) hz
    rw[h2,hk] at hs2
    have hk2:=(A2t c p).1 hk
    have hfin:∀q,q=p+(Utf8.decode ⟨⟨s⟩⟩ p).2->q<=s.length/\(s.zipIdx.take q).all l7=true/\s.length-q<s.length-p:=λq hq=>by
     rw[e2] at hq
     subst hq
     exact⟨by omega,hs2,by omega⟩
    clear hs2 hz e hk
    rcases hk2 with ⟨k1,k2⟩|k1|⟨k1,k2,k3⟩
    ·repeat' first|refine st ?_|(with_reducible first|apply A5|apply A4)<;>intro _
     obtain⟨f1,f2,f3⟩:=hfin _ rfl
     exact⟨_,rfl,rfl,rfl,f3,f1,f2⟩
    ·repeat' first|refine st ?_|(with_reducible first|apply A5|apply A4)<;>intro _
     obtain⟨f1,f2,f3⟩:=hfin _ rfl
     exact⟨_,rfl,rfl,rfl,f3,f1,f2⟩
    ·repeat' first|refine st ?_|(with_reducible first|apply A5|apply A4)<;>intro _
     obtain⟨f1,f2,f3⟩:=hfin _ rfl
     exact⟨_,rfl,rfl,rfl,f3,f1,f2⟩
   |false=>
    have hbf:b=false:=hb.trans (A5W hx hk)
    have hk2:¬_:=λh=>Bool.false_ne_true (hk▸(A2t c p).2 h)
    rw[hbf]
    clear hz e hk
    repeat' first|refine st ?_|(with_reducible first|apply A5|apply A4)<;>intro _
    all_goals first|rfl|(exfalso;omega)
  ·have e:=C8y hx hc
   have hk:l7 (c,p)=false:=by
    rw[A4w]
    intro h
    have:=(A2t c p).1 h
    omega
   have hbf:b=false:=hb.trans (A5W hx hk)
   rw[hbf]
   repeat' first|refine st ?_|(with_reducible first|apply A5|apply A4)<;>intro _
   all_goals first|rfl|(exfalso;omega)
 |none=>
  have hge:=E4.1 hx
  rw[P2 (by simpa using hge)] at h2
  have hb2:b=(decide (1<=s.length/\s.length<=24)&&!r):=by rw[hb,L6,okS,h2,hr];simp
  clear hb hr
  by_cases h:1<=s.length/\s.length<=24
  ·rw[decide_eq_true h] at hb2
   obtain⟨g1,g2⟩:=h
   rw[hb2]
   repeat' first|refine st ?_|((with_reducible first|apply A9|apply A8);(·exact hR))|(with_reducible first|apply A5|apply A4)<;>intro _
   all_goals first|rfl|(exfalso;omega)
  ·rw[decide_eq_false h] at hb2
   rw[hb2]
   repeat' first|refine st ?_|((with_reducible first|apply A9|apply A8);(·exact hR))|(with_reducible first|apply A5|apply A4)<;>intro _
   all_goals first|rfl|(exfalso;omega)
theorem A8g(s:List UInt8)(hs:s.length<=1048576):Pure Tryz.prog B45 [.d (.str s)] (.d (.bool (L6 s))):=by
 refine C1S.go A6 rfl ?_
 have hR:=C0U A1w (by decide) (.sl (eSs A1w)) O7 s
 have hW:=C0Q
 obtain⟨ew,hew⟩:∃ew,ew=eSs A1w:=⟨_,rfl⟩
 rw[<- hew] at hR hW
 obtain⟨b,hb⟩:∃b,b=L6 s:=⟨_,rfl⟩
 rw[<- hb]
 obtain⟨r,hr⟩:∃r,r=decide (s∈A1w):=⟨_,rfl⟩
 rw[<- hr] at hR
 by_cases hlen:1<=s.length/\s.length<=24
 rotate_left
 ·have hbf:b=false:=by rw[hb,L6,decide_eq_false hlen];simp
  rw[hbf]
  by_cases h0:s=[]
  ·subst h0
   repeat' first|refine st ?_|(with_reducible first|apply A5|apply A4)<;>intro _
   all_goals rfl
  ·have h1:¬s.length=0:=λh=>h0 (A2K.1 h)
   have h24:24<s.length:=by omega
   repeat' first|refine st ?_|(with_reducible first|apply A5|apply A4)<;>intro _
   all_goals rfl
 obtain⟨g1,g2⟩:=hlen
 have g0:¬s=[]:=λh=>by subst h;simp at g1
 obtain⟨c0,hc0⟩:∃c,s[0]?=some c:=⟨_,C5 (by omega)⟩
 have hg0:s.getD (0:Int).toNat 0=c0:=by simp[F7,hc0]
 by_cases hd:48<=c0.toNat/\c0.toNat<=57
 ·have hk:l7 (c0,0)=false:=by
   rw[A4w]
   intro h
   have:=(A2t c0 0).1 h
   omega
  have hbf:b=false:=hb.trans (A5W hc0 hk)
  rw[hbf]
  rw[<- hg0] at hd
  obtain⟨d1,d2⟩:=hd
  repeat' first|refine st ?_|(with_reducible first|apply A5|apply A4)<;>intro _
  all_goals first|rfl|(exfalso;omega)
 rcases(show c0.toNat<48\/57<c0.toNat by omega) with hd'|hd'
 all_goals rw[<- hg0] at hd'
 ·repeat' first|refine st ?_|(with_reducible first|apply A5|apply A4)<;>intro _
  refine G6 A6 B3Q B3K (λ(p:Nat)=>[.d (eI p)]) (λp=>[]) (λp=>p<=s.length/\(s.zipIdx.take p).all l7=true) (λp=>s.length-p) 0 rfl rfl rfl rfl (λ_ _=>⟨rfl,rfl⟩) rfl ⟨by omega,by simp⟩ ?_
  repeat' first|refine st ?_|(with_reducible first|apply A5|apply A4)<;>intro _
  intro p ⟨h1,h2⟩
  cases hx:s[p]? with
  |some c=>
   have hlt:=(B2.1 hx).1
   have hg:s.getD ((p:Nat):Int).toNat 0=c:=by simp[F7,hx]
   have hz:=A89 hx
   have h0:p=0->c=c0:=λh=>by
    subst h
    rw[hx] at hc0
    exact A03 hc0
   have h0:p=0->c.toNat=c0.toNat:=λh=>by rw[h0 h]
   cases hk:l7 (c,p) with
   |true=>
    have hs2:=A2W (f:=l7) hz
    rw[h2,hk] at hs2
    have hk2:=(A2t c p).1 hk
    rw[<- hg] at hk2
    clear hz hk
    rcases hk2 with ⟨k1,k2⟩|k1|⟨k1,k2,k3⟩
    ·repeat' first|refine st ?_|(with_reducible first|apply A5|apply A4)<;>intro _
     exact⟨p+1,rfl,rfl,rfl,by omega,by omega,hs2⟩
    ·repeat' first|refine st ?_|(with_reducible first|apply A5|apply A4)<;>intro _
     exact⟨p+1,rfl,rfl,rfl,by omega,by omega,hs2⟩
    ·repeat' first|refine st ?_|(with_reducible first|apply A5|apply A4)<;>intro _
     exact⟨p+1,rfl,rfl,rfl,by omega,by omega,hs2⟩
   |false=>
    have hbf:b=false:=hb.trans (A5W hx hk)
    have hk2:¬_:=λh=>Bool.false_ne_true (hk▸(A2t c p).2 h)
    rw[hbf]
    rw[<- hg] at hk2 h0
    rw[<- hg0] at h0
    clear hz hk
    repeat' first|refine st ?_|(with_reducible first|apply A5|apply A4)<;>intro _
    all_goals first|rfl|(exfalso;omega)
  |none=>
   have hge:=E4.1 hx
   rw[P2 (by simpa using hge)] at h2
   have hb2:b=!r:=by rw[hb,L6,okS,h2,hr,decide_eq_true (show 1<=s.length/\s.length<=24 from⟨g1,g2⟩)];simp
   rw[hb2]
   repeat' first|refine st ?_|((with_reducible first|apply A9|apply A8);(·first|exact hW|exact hR))|(with_reducible first|apply A5|apply A4)<;>intro _
   all_goals first|rfl|(exfalso;omega)
 ·repeat' first|refine st ?_|(with_reducible first|apply A5|apply A4)<;>intro _
  refine G6 A6 B3Q B3K (λ(p:Nat)=>[.d (eI p)]) (λp=>[]) (λp=>p<=s.length/\(s.zipIdx.take p).all l7=true) (λp=>s.length-p) 0 rfl rfl rfl rfl (λ_ _=>⟨rfl,rfl⟩) rfl ⟨by omega,by simp⟩ ?_
  repeat' first|refine st ?_|(with_reducible first|apply A5|apply A4)<;>intro _
  intro p ⟨h1,h2⟩
  cases hx:s[p]? with
  |some c=>
   have hlt:=(B2.1 hx).1
   have hg:s.getD ((p:Nat):Int).toNat 0=c:=by simp[F7,hx]
   have hz:=A89 hx
   have h0:p=0->c=c0:=λh=>by
    subst h
    rw[hx] at hc0
    exact A03 hc0
   have h0:p=0->c.toNat=c0.toNat:=λh=>by rw[h0 h]
   cases hk:l7 (c,p) with
   |true=>
    have hs2:=A2W (f:=l7) hz
    rw[h2,hk] at hs2
    have hk2:=(A2t c p).1 hk
    rw[<- hg] at hk2
    clear hz hk
    rcases hk2 with ⟨k1,k2⟩|k1|⟨k1,k2,k3⟩
    ·repeat' first|refine st ?_|(with_reducible first|apply A5|apply A4)<;>intro _
     exact⟨p+1,rfl,rfl,rfl,by omega,by omega,hs2⟩
    ·repeat' first|refine st ?_|(with_reducible first|apply A5|apply A4)<;>intro _
     exact⟨p+1,rfl,rfl,rfl,by omega,by omega,hs2⟩
    ·repeat' first|refine st ?_|(with_reducible first|apply A5|apply A4)<;>intro _
     exact⟨p+1,rfl,rfl,rfl,by omega,by omega,hs2⟩
   |false=>
    have hbf:b=false:=hb.trans (A5W hx hk)
    have hk2:¬_:=λh=>Bool.false_ne_true (hk▸(A2t c p).2 h)
    rw[hbf]
    rw[<- hg] at hk2 h0
    rw[<- hg0] at h0
    clear hz hk
    repeat' first|refine st ?_|(with_reducible first|apply A5|apply A4)<;>intro _
    all_goals first|rfl|(exfalso;omega)
  |none=>
   have hge:=E4.1 hx
   rw[P2 (by simpa using hge)] at h2
   have hb2:b=!r:=by rw[hb,L6,okS,h2,hr,decide_eq_true (show 1<=s.length/\s.length<=24 from⟨g1,g2⟩)];simp
   rw[hb2]
   repeat' first|refine st ?_|((with_reducible first|apply A9|apply A8);(·first|exact hW|exact hR))|(with_reducible first|apply A5|apply A4)<;>intro _
   all_goals first|rfl|(exfalso;omega)
end Go.Proofs
end
section
namespace Go.Proofs
open Go.Bi
theorem A5n{a b:Int}:A2f a b=0↔a=b:=by unfold A2f;split<;>(try split)<;>omega
theorem A9p:∀(a b:List UInt8),Op.bytesLess a b=decide (A09 a b<0)/\Op.bytesLess b a=decide (0<A09 a b)/\(A09 a b=0↔a=b)/\(A09 a b=-1\/A09 a b=0\/A09 a b=1)
 |[],[]=>by simp[Op.bytesLess,A09,Lib.compareBytes]
 |[],_::_=>by simp[Op.bytesLess,A09,Lib.compareBytes]
 |_::_,[]=>by simp[Op.bytesLess,A09,Lib.compareBytes]
 |x::a,y::b=>by
  obtain⟨h1,h2,h3,h4⟩:=A9p a b
  simp only[Op.bytesLess,A09,Lib.compareBytes] at *
  by_cases hxy:x<y
  ·have h5:¬y<x:=by intro h;exact absurd (UInt8.lt_trans hxy h) (UInt8.lt_irrefl x)
   have h6:x≠y:=by intro h;rw[h] at hxy;exact UInt8.lt_irrefl y hxy
   simp[hxy,h5,h6,Ne.symm h6]
  ·by_cases hyx:y<x
   ·have h6:x≠y:=by intro h;rw[h] at hyx;exact UInt8.lt_irrefl y hyx
    simp[hxy,hyx,h6,Ne.symm h6]
   ·have h6:x=y:=UInt8.le_antisymm (UInt8.not_lt.1 hyx) (UInt8.not_lt.1 hxy)
    subst h6
    simp only[UInt8.lt_irrefl,decide_false,Bool.false_or,beq_self_eq_true,s0,if_false,h1,h2,List.cons.injEq,true_and]
    exact⟨h3,h4⟩
def A4q(a b:Vl):Int:=or3 (A2f a.k b.k) (A2f a.n b.n) (A09 a.s b.s)
def sgn(l g:Bool):Int:=if l then -1 else if g then 1 else 0
theorem C0Z(l g:Bool):Pure Tryz.prog B3X [.d (.bool l),.d (.bool g)] (.d (eI (sgn l g))):=by
 refine C1B.go A6 rfl ?_
 repeat' first|refine st ?_|(with_reducible first|apply A5|apply A4)<;>intro _
 all_goals simp_all[sgn]
theorem C0W(a b:Vl):Pure Tryz.prog A8t [eV a,eV b] (.d (eI (A4q a b))):=by
 refine C1x.go A6 rfl ?_
 repeat' first|refine st ?_|((with_reducible first|apply A9|apply A8);(·exact C0Z _ _))|(with_reducible first|apply A5|apply A4)<;>intro _
 ·rename_i h1 h2
  have e1:=A5n.2 h1
  have e2:=A5n.2 h2
  obtain⟨h3,h4,h5,h6⟩:=A9p a.s b.s
  rw[A4q,or3,e1,e2]
  simp only[h3,h4,sgn,decide_eq_true_eq]
  congr 2
  rcases h6 with h|h|h
  ·rw[h];rfl
  ·rw[h,decide_eq_true (h5.1 h)];rfl
  ·have hne:decide (a.s=b.s)=false:=decide_eq_false (λe=>by rw[h5.2 e] at h;cases h)
   rw[h,hne];rfl
 ·rename_i h1 h2
  have e1:=A5n.2 h1
  rw[A4q,or3,e1,if_neg (by simp),if_pos (λe=>h2 (A5n.1 e)),sgn,A2f]
  simp
 ·rename_i h1
  rw[A4q,or3,if_pos (λe=>h1 (A5n.1 e)),sgn,A2f]
  simp
theorem B0O{v w:Vl}:v=w↔(v.k=w.k/\v.n=w.n/\v.s=w.s):=by cases v;cases w;simp
def D6(l:List Vl):List (List D):=l.map Vl.ds
theorem Y5(l:List Vl):(D6 l).length=l.length:=by simp[D6]
theorem A5u{l:List Vl}{i:Nat}{v:Vl}(h:l[i]?=some v):(D6 l)[i]?=some v.ds:=by simp[D6,h]
theorem A0H(l:List Vl):∀e∈D6 l,e.length=3:=by
 intro e he
 obtain⟨x,_,rfl⟩:=E6.1 he
 rfl
def vAt(l:List Vl)(i:Int):Vl:=if i<0\/(l.length:Int)<=i then K4 else l.getD i.toNat K4
structure Co where
 nm:List UInt8
 k:Int
 nl:Bool
abbrev Co.ds(c:Co):List D:=[.str c.nm,eI c.k,.bool c.nl]
def B3(l:List Co):List (List D):=l.map Co.ds
theorem G8(l:List Co):(B3 l).length=l.length:=by simp[B3]
theorem M8{l:List Co}{i:Nat}{c:Co}(h:l[i]?=some c):(B3 l)[i]?=some c.ds:=by simp[B3,h]
theorem I3(l:List Co):∀e∈B3 l,e.length=3:=by
 intro e he
 obtain⟨x,_,rfl⟩:=E6.1 he
 rfl
abbrev eT(n:List UInt8)(dc dk df dx:D):AV:=.agg [.d (.str n),.d dc,.d dk,.d df,.d dx]
def kd(l:List Co):List Int:=l.map Co.k
theorem S5(l:List Co):(kd l).length=l.length:=by simp[kd]
def Kt(l:List Co)(i:Nat):List (List D):=A0 (kd (l.take i))
theorem B3E(l:List Co)(i:Nat)(h:i<=l.length):(Kt l i).length=i:=by
 unfold Kt
 rw[B6,S5,P8]
 omega
theorem B3F{l:List Co}{i:Nat}{c:Co}(h:l[i]?=some c):Kt l i++[[eI c.k]]=Kt l (i+1):=by
 unfold Kt kd
 rw[S0,h]
 simp[A0]
theorem B3D{l:List Co}{i:Nat}(h:l.length<=i):Kt l i=A0 (kd l):=by
 unfold Kt
 rw[P2 h]
def kdD(l:List Co):D:=if (A0 (kd l)).isEmpty then .nil else .sl (A0 (kd l))
theorem B7b(l:List Co):B8 (kdD l) (A0 (kd l)):=by
 unfold kdD
 split
 ·rename_i h;exact .inl ⟨rfl,by simpa using h⟩
 ·exact .inr rfl
theorem B1j(n:List UInt8)(l:List Co)(hl:l.length<=1048576)(dc dk df dx:D)(hc:B8 dc (B3 l)):Pure Tryz.prog B4E [eT n dc dk df dx] (.d (kdD l)):=by
 refine C2B.go A6 rfl ?_
 have h1:=G8 l
 have hm:=I3 l
 repeat' first|refine st ?_|(with_reducible first|apply A5|apply A4)<;>intro _
 refine r8 3 1 rfl rfl ?_
 repeat' first|refine st ?_|(with_reducible first|apply A5|apply A4)<;>intro _
 refine P5 A6 C4N C3X (λ(i:Nat) (w:List (List D)×Bool)=>[.arr 1 w.1.length,.d (eI i)]) (λi w=>[.cells [.d (.str n),.d dc,.d dk,.d df,.d dx],.arr w.1 1 0 w.2]) (λi w=>i<=l.length/\w.1=Kt l i/\w.2=w.1.isEmpty) (λi _=>l.length-i) 0 ([],true) rfl rfl rfl rfl (λ_ _ _=>⟨rfl,rfl⟩) rfl ⟨by omega,rfl,rfl⟩ ?_
 repeat' first|refine st ?_|(with_reducible first|apply A5|apply A4)<;>intro _
 intro i w ⟨h4,h5,h6⟩
 obtain⟨A,b⟩:=w
 dsimp only at h5 h6 ⊢
 have hAl:A.length=i:=by rw[h5];exact B3E l i (by omega)
 have hAm:∀e∈A,e.length=1:=by rw[h5];exact D4 _
 cases hx:l[i]? with
 |some x=>
  have hlt:=(B2.1 hx).1
  have hs:=B3F hx
  have hg:=M8 hx
  rw[<- h5] at hs
  repeat' first|refine st ?_|(with_reducible first|apply A5|apply A4)<;>intro _
  exact⟨i+1,(A++[[eI x.k]],false),rfl,rfl,rfl,by omega,by omega,hs,by simp⟩
 |none=>
  have hge:=E4.1 hx
  rw[B3D hge] at h5
  unfold kdD
  rw[<- h5,<- h6]
  cases b with
  |true=>
   repeat' first|refine st ?_|(with_reducible first|apply A5|apply A4)<;>intro _
   all_goals rfl
  |false=>
   repeat' first|refine st ?_|(with_reducible first|apply A5|apply A4)<;>intro _
   all_goals rfl
theorem C0O(n:List UInt8)(l:List Co)(hl:l.length<=1048576)(dc dk df dx:D)(hc:B8 dc (B3 l)):Pure Tryz.prog B44 [eT n dc dk df dx] (.d (.sl (A0 (kd l)))):=by
 refine C1R.go A6 rfl ?_
 have h1:=G8 l
 have hm:=I3 l
 repeat' first|refine st ?_|(with_reducible first|apply A5|apply A4)<;>intro _
 refine P5 A6 C4j C3t (λ(i:Nat) (A:List (List D))=>[.arr 1 A.length,.d (eI i)]) (λi A=>[.cells [.d (.str n),.d dc,.d dk,.d df,.d dx],.arr A 1 0 false]) (λi A=>i<=l.length/\A=Kt l i) (λi _=>l.length-i) 0 [] rfl rfl rfl rfl (λ_ _ _=>⟨rfl,rfl⟩) rfl ⟨by omega,rfl⟩ ?_
 repeat' first|refine st ?_|(with_reducible first|apply A5|apply A4)<;>intro _
 intro i A ⟨h4,h5⟩
 have hAl:A.length=i:=by rw[h5];exact B3E l i (by omega)
 have hAm:∀e∈A,e.length=1:=by rw[h5];exact D4 _
 cases hx:l[i]? with
 |some x=>
  have hlt:=(B2.1 hx).1
  have hs:=B3F hx
  have hg:=M8 hx
  rw[<- h5] at hs
  repeat' first|refine st ?_|(with_reducible first|apply A5|apply A4)<;>intro _
  exact⟨i+1,A++[[eI x.k]],rfl,rfl,rfl,by omega,by omega,hs⟩
 |none=>
  have hge:=E4.1 hx
  rw[B3D hge] at h5
  rw[<- h5]
  repeat' first|refine st ?_|(with_reducible first|apply A5|apply A4)<;>intro _
  all_goals rfl
def k7(nm:List UInt8):Nat->List Co->Int
 |_,[]=>-1
 |i,c::l=>if c.nm=nm then i else k7 nm (i+1) l
def D8(nm:List UInt8)(l:List Co):Int:=k7 nm 0 l
theorem B6C{nm:List UInt8}{l:List Co}{i:Nat}{c:Co}(h:l[i]?=some c):k7 nm i (l.drop i)=if c.nm=nm then (i:Int) else k7 nm (i+1) (l.drop (i+1)):=by
 obtain⟨hlt,he⟩:=B2.1 h
 rw[V2 hlt,he];rfl
theorem C0N(n:List UInt8)(l:List Co)(hl:l.length<=1048576)(dc dk df dx:D)(hc:B8 dc (B3 l))(nm:List UInt8):Pure Tryz.prog B43 [eT n dc dk df dx,.d (.str nm)] (.d (eI (D8 nm l))):=by
 refine C1P.go A6 rfl ?_
 have h1:=G8 l
 have hm:=I3 l
 repeat' first|refine st ?_|(with_reducible first|apply A5|apply A4)<;>intro _
 refine G6 A6 C4h C3r (λ(i:Nat)=>[.d (eI i)]) (λi=>[.cells [.d (.str n),.d dc,.d dk,.d df,.d dx]]) (λi=>i<=l.length/\D8 nm l=k7 nm i (l.drop i)) (λi=>l.length-i) 0 rfl rfl rfl rfl (λ_ _=>⟨rfl,rfl⟩) rfl ⟨by omega,rfl⟩ ?_
 repeat' first|refine st ?_|(with_reducible first|apply A5|apply A4)<;>intro _
 intro i ⟨h4,h5⟩
 cases hx:l[i]? with
 |some x=>
  have hlt:=(B2.1 hx).1
  have hg:=M8 hx
  rw[B6C hx] at h5
  by_cases h:x.nm=nm
  ·rw[if_pos h] at h5
   rw[h5]
   repeat' first|refine st ?_|(with_reducible first|apply A5|apply A4)<;>intro _
   all_goals rfl
  ·rw[if_neg h] at h5
   repeat' first|refine st ?_|(with_reducible first|apply A5|apply A4)<;>intro _
   exact⟨i+1,rfl,rfl,rfl,by omega,by omega,h5⟩
 |none=>
  have hge:=E4.1 hx
  rw[W2 hge] at h5
  rw[h5]
  repeat' first|refine st ?_|(with_reducible first|apply A5|apply A4)<;>intro _
  all_goals rfl
theorem C12(c:Co)(nm:List UInt8):B4 Tryz.prog A6W [.agg [.d (.str c.nm),.d (eI c.k),.d (.bool c.nl)],.ptr 0 0] [.cells [.d (.str nm)]] (λr os=>r=.d (.bool (decide (c.nm=nm)))/\os=[.cells [.d (.str nm)]]):=by
 refine C2A.goX A6 rfl ?_
 repeat' first|refine st ?_|(with_reducible first|apply A5|apply A4)<;>intro _
 all_goals exact⟨rfl,rfl⟩
theorem C0t(l:List Co)(hl:l.length<=1048576)(dc:D)(hc:B8 dc (B3 l))(nm:List UInt8):B4 Tryz.prog A8U [.d dc,.clo A6W [0]] [.cells [.d (.str nm)]] (λr os=>r=.d (eI (D8 nm l))/\os=[.cells [.d (.str nm)]]):=by
 refine C2M.goX A6 rfl ?_
 have h1:=G8 l
 have hm:=I3 l
 repeat' first|refine st ?_|(with_reducible first|apply A5|apply A4)<;>intro _
 refine G6 A6 C4W C46 (λ(i:Nat)=>[.d (eI i)]) (λi=>[.cells [.d (.str nm)]]) (λi=>i<=l.length/\D8 nm l=k7 nm i (l.drop i)) (λi=>l.length-i) 0 rfl rfl rfl rfl (λ_ _=>⟨rfl,rfl⟩) rfl ⟨by omega,rfl⟩ ?_
 repeat' first|refine st ?_|(with_reducible first|apply A5|apply A4)<;>intro _
 intro i ⟨h4,h5⟩
 cases hx:l[i]? with
 |some x=>
  have hlt:=(B2.1 hx).1
  have hg:=M8 hx
  have hC:=C12 x nm
  rw[B6C hx] at h5
  by_cases h:x.nm=nm
  ·rw[if_pos h] at h5
   rw[h5]
   rw[decide_eq_true h] at hC
   repeat' first|refine st ?_|((with_reducible first|apply I6|apply D5);(·exact hC);(try rintro _ _ ⟨rfl,rfl⟩))|((with_reducible apply I7);(·exact hC))|((with_reducible apply H6);refine st ?_;(with_reducible apply I5);(·exact rfl);refine st ?_;(with_reducible apply D5);(·exact hC);(try rintro _ _ ⟨rfl,rfl⟩))|(with_reducible first|apply A5|apply A4)<;>intro _
   all_goals exact⟨rfl,rfl⟩
  ·rw[if_neg h] at h5
   rw[decide_eq_false h] at hC
   repeat' first|refine st ?_|((with_reducible first|apply I6|apply D5);(·exact hC);(try rintro _ _ ⟨rfl,rfl⟩))|((with_reducible apply I7);(·exact hC))|((with_reducible apply H6);refine st ?_;(with_reducible apply I5);(·exact rfl);refine st ?_;(with_reducible apply D5);(·exact hC);(try rintro _ _ ⟨rfl,rfl⟩))|(with_reducible first|apply A5|apply A4)<;>intro _
   exact⟨i+1,rfl,rfl,rfl,by omega,by omega,h5⟩
 |none=>
  have hge:=E4.1 hx
  rw[W2 hge] at h5
  rw[h5]
  repeat' first|refine st ?_|(with_reducible first|apply A5|apply A4)<;>intro _
  all_goals exact⟨rfl,rfl⟩
theorem S6(n:List UInt8)(l:List Co)(hl:l.length<=1048576)(dc dk df dx:D)(hc:B8 dc (B3 l))(nm:List UInt8):Pure Tryz.prog U5 [eT n dc dk df dx,.d (.str nm)] (.d (eI (D8 nm l))):=by
 refine C2z.go A6 rfl ?_
 have hF:B4 Tryz.prog A8U [.d dc,.clo A6W [1]] [.cells [.d (.str n),.d dc,.d dk,.d df,.d dx],.cells [.d (.str nm)]] (λr os=>r=.d (eI (D8 nm l))/\os=[.cells [.d (.str n),.d dc,.d dk,.d df,.d dx],.cells [.d (.str nm)]]):=
  B4.frame (C0t l hl dc hc nm) [1] [.cells [.d (.str n),.d dc,.d dk,.d df,.d dx],.cells [.d (.str nm)]] rfl (by decide)
   (λi o h=>by
    match i,h with
    |0,h=>cases h;rfl
    |i+1,h=>simp at h)
   (λa ha=>by simp at ha;rcases ha with rfl|rfl<;>simp[AV.bnd2,AV.bnd1])
   (λo ho=>by simp at ho;subst ho;simp[AO.bnd,AV.bnd1])
   (λr bs' h=>by obtain⟨rfl,rfl⟩:=h;exact⟨rfl,rfl⟩)
 repeat' first|refine st ?_|((with_reducible first|apply I6|apply D5);(·exact hF);(try rintro _ _ ⟨rfl,rfl⟩))|((with_reducible apply I7);(·exact hF))|((with_reducible apply H6);refine st ?_;(with_reducible apply I5);(·exact rfl);refine st ?_;(with_reducible apply D5);(·exact hF);(try rintro _ _ ⟨rfl,rfl⟩))|(with_reducible first|apply A5|apply A4)<;>intro _
 all_goals rfl
def Z9(l:List Co):Option Int->List Int->Int
 |_,[]=>0
 |p,k::ks=>if 0<=k/\k<l.length then (match p with
  |some q=>if k<=q then 25 else if (l.getD k.toNat ⟨[],0,false⟩).nl then 12 else Z9 l (some k) ks
  |none=>if (l.getD k.toNat ⟨[],0,false⟩).nl then 12 else Z9 l (some k) ks) else 25
def A0g(l:List Co)(ks:List Int):Int:=if ks.length=0 then 25 else Z9 l none ks
def p7(ks:List Int)(i:Nat):Option Int:=if i=0 then none else ks[i-1]?
theorem B7e{l:List Co}{ks:List Int}{i:Nat}{k:Int}(h:ks[i]?=some k):Z9 l (p7 ks i) (ks.drop i)=if 0<=k/\k<l.length then (match p7 ks i with
  |some q=>if k<=q then 25 else if (l.getD k.toNat ⟨[],0,false⟩).nl then 12 else Z9 l (p7 ks (i+1)) (ks.drop (i+1))
  |none=>if (l.getD k.toNat ⟨[],0,false⟩).nl then 12 else Z9 l (p7 ks (i+1)) (ks.drop (i+1))) else 25:=by
 obtain⟨hlt,he⟩:=B2.1 h
 have hp:p7 ks (i+1)=some k:=by rw[p7,if_neg (by omega)];exact h
 rw[V2 hlt,he,hp]
 cases p7 ks i<;>rfl
theorem B1k(n:List UInt8)(l:List Co)(hl:l.length<=1048576)(dc dk df dx:D)(hc:B8 dc (B3 l))(k:Int):Pure Tryz.prog B4G [eT n dc dk df dx,.d (eI k)] (.d (.bool (decide (0<=k/\k<l.length)))):=by
 refine C2H.go A6 rfl ?_
 have h1:=G8 l
 repeat' first|refine st ?_|(with_reducible first|apply A5|apply A4)<;>intro _
 all_goals (simp_all<;>(intros;omega))
theorem B1h(n:List UInt8)(l:List Co)(hl:l.length<=1048576)(dc dk df dx:D)(hc:B8 dc (B3 l))(k:Int):Pure Tryz.prog B49 [eT n dc dk df dx,.d (eI k)] (.d (.bool (decide (0<=k/\k<l.length)))):=by
 refine C1X.go A6 rfl ?_
 have h1:=G8 l
 repeat' first|refine st ?_|(with_reducible first|apply A5|apply A4)<;>intro _
 all_goals (simp_all<;>(intros;omega))
theorem C16(n:List UInt8)(l:List Co)(hl:l.length<=1048576)(dc dk df dx:D)(hc:B8 dc (B3 l))(ks:List Int)(hk:ks.length<=1048576)(hdk:B8 dk (A0 ks)):Pure Tryz.prog A70 [eT n dc dk df dx] (.d (eI (A0g l ks))):=by
 refine C2G.go A6 rfl ?_
 have h1:=G8 l
 have hm:=I3 l
 have h2:=B6 ks
 have hm2:=D4 ks
 unfold A0g
 by_cases h0:ks.length=0
 ·rw[if_pos h0]
  repeat' first|refine st ?_|(with_reducible first|apply A5|apply A4)<;>intro _
  all_goals first|rfl|(exfalso;omega)
 rw[if_neg h0]
 obtain⟨q,hq⟩:∃q,q=Z9 l none ks:=⟨_,rfl⟩
 rw[<- hq]
 repeat' first|refine st ?_|(with_reducible first|apply A5|apply A4)<;>intro _
 refine G6 A6 C4T C43 (λ(i:Nat)=>[.d (eI i)]) (λi=>[.cells [.d (.str n),.d dc,.d dk,.d df,.d dx]]) (λi=>i<=ks.length/\q=Z9 l (p7 ks i) (ks.drop i)) (λi=>ks.length-i) 0 rfl rfl rfl rfl (λ_ _=>⟨rfl,rfl⟩) rfl ⟨by omega,hq⟩ ?_
 repeat' first|refine st ?_|(with_reducible first|apply A5|apply A4)<;>intro _
 intro i ⟨h4,h5⟩
 cases hx:ks[i]? with
 |some k=>
  have hlt:=(B2.1 hx).1
  have hg:=O2 hx
  have hH:=B1k n l hl dc dk df dx hc k
  rw[B7e hx] at h5
  by_cases hin:0<=k/\k<l.length
  rotate_left
  ·rw[if_neg hin] at h5
   rw[decide_eq_false hin] at hH
   rw[h5]
   repeat' first|refine st ?_|((with_reducible first|apply A9|apply A8);(·exact hH))|(with_reducible first|apply A5|apply A4)<;>intro _
   all_goals rfl
  rw[if_pos hin] at h5
  rw[decide_eq_true hin] at hH
  obtain⟨i1,i2⟩:=hin
  obtain⟨c,hcx⟩:∃c,l[k.toNat]?=some c:=⟨_,C5 (by omega)⟩
  have hgc:=M8 hcx
  have hb2:k<(B3 l).length:=by omega
  rw[show l.getD k.toNat ⟨[],0,false⟩=c by rw[F7,hcx];rfl] at h5
  obtain⟨cn,ck,cl⟩:=c
  dsimp only at h5 hgc
  by_cases hi:i=0
  ·subst hi
   rw[show p7 ks 0=none from rfl] at h5
   dsimp only at h5
   cases cl with
   |true=>
    rw[if_pos rfl] at h5
    rw[h5]
    repeat' first|refine st ?_|((with_reducible first|apply A9|apply A8);(·exact hH))|(with_reducible first|apply A5|apply A4)<;>intro _
    all_goals rfl
   |false=>
    rw[if_neg (by simp)] at h5
    repeat' first|refine st ?_|((with_reducible first|apply A9|apply A8);(·exact hH))|(with_reducible first|apply A5|apply A4)<;>intro _
    exact⟨1,rfl,rfl,rfl,by omega,by omega,h5⟩
  ·obtain⟨k',hk'⟩:∃k',ks[i-1]?=some k':=⟨_,C5 (by omega)⟩
   have hg':(A0 ks)[((i:Int)-1).toNat]?=some [eI k']:=by
    rw[show((i:Int)-1).toNat=i-1 by omega]
    exact O2 hk'
   have hw:(0:Int)<i:=by omega
   rw[show p7 ks i=some k' by rw[p7,if_neg hi,hk']] at h5
   dsimp only at h5
   by_cases hle:k<=k'
   ·rw[if_pos hle] at h5
    rw[h5]
    repeat' first|refine st ?_|((with_reducible first|apply A9|apply A8);(·exact hH))|(with_reducible first|apply A5|apply A4)<;>intro _
    all_goals rfl
   ·rw[if_neg hle] at h5
    cases cl with
    |true=>
     rw[if_pos rfl] at h5
     rw[h5]
     repeat' first|refine st ?_|((with_reducible first|apply A9|apply A8);(·exact hH))|(with_reducible first|apply A5|apply A4)<;>intro _
     all_goals rfl
    |false=>
     rw[if_neg (by simp)] at h5
     repeat' first|refine st ?_|((with_reducible first|apply A9|apply A8);(·exact hH))|(with_reducible first|apply A5|apply A4)<;>intro _
     exact⟨i+1,rfl,rfl,rfl,by omega,by omega,h5⟩
 |none=>
  have hge:=E4.1 hx
  rw[W2 hge] at h5
  rw[h5]
  repeat' first|refine st ?_|(with_reducible first|apply A5|apply A4)<;>intro _
  all_goals first|rfl|(unfold Z9;rfl)
theorem C0V(n:List UInt8)(l:List Co)(hl:l.length<=1048576)(dc dk df dx:D)(hc:B8 dc (B3 l))(ks:List Int)(hk:ks.length<=1048576)(hdk:B8 dk (A0 ks)):Pure Tryz.prog B4c [eT n dc dk df dx] (.d (eI (A0g l ks))):=by
 refine C20.go A6 rfl ?_
 have h1:=G8 l
 have hm:=I3 l
 have h2:=B6 ks
 have hm2:=D4 ks
 unfold A0g
 by_cases h0:ks.length=0
 ·rw[if_pos h0]
  repeat' first|refine st ?_|(with_reducible first|apply A5|apply A4)<;>intro _
  all_goals first|rfl|(exfalso;omega)
 rw[if_neg h0]
 obtain⟨q,hq⟩:∃q,q=Z9 l none ks:=⟨_,rfl⟩
 rw[<- hq]
 repeat' first|refine st ?_|(with_reducible first|apply A5|apply A4)<;>intro _
 refine G6 A6 C4s C3C (λ(i:Nat)=>[.d (eI i)]) (λi=>[.cells [.d (.str n),.d dc,.d dk,.d df,.d dx]]) (λi=>i<=ks.length/\q=Z9 l (p7 ks i) (ks.drop i)) (λi=>ks.length-i) 0 rfl rfl rfl rfl (λ_ _=>⟨rfl,rfl⟩) rfl ⟨by omega,hq⟩ ?_
 repeat' first|refine st ?_|(with_reducible first|apply A5|apply A4)<;>intro _
 intro i ⟨h4,h5⟩
 cases hx:ks[i]? with
 |some k=>
  have hlt:=(B2.1 hx).1
  have hg:=O2 hx
  have hH:=B1h n l hl dc dk df dx hc k
  rw[B7e hx] at h5
  by_cases hin:0<=k/\k<l.length
  rotate_left
  ·rw[if_neg hin] at h5
   rw[decide_eq_false hin] at hH
   rw[h5]
   repeat' first|refine st ?_|((with_reducible first|apply A9|apply A8);(·exact hH))|(with_reducible first|apply A5|apply A4)<;>intro _
   all_goals rfl
  rw[if_pos hin] at h5
  rw[decide_eq_true hin] at hH
  obtain⟨i1,i2⟩:=hin
  obtain⟨c,hcx⟩:∃c,l[k.toNat]?=some c:=⟨_,C5 (by omega)⟩
  have hgc:=M8 hcx
  have hb2:k<(B3 l).length:=by omega
  rw[show l.getD k.toNat ⟨[],0,false⟩=c by rw[F7,hcx];rfl] at h5
  obtain⟨cn,ck,cl⟩:=c
  dsimp only at h5 hgc
  by_cases hi:i=0
  ·subst hi
   rw[show p7 ks 0=none from rfl] at h5
   dsimp only at h5
   cases cl with
   |true=>
    rw[if_pos rfl] at h5
    rw[h5]
    repeat' first|refine st ?_|((with_reducible first|apply A9|apply A8);(·exact hH))|(with_reducible first|apply A5|apply A4)<;>intro _
    all_goals rfl
   |false=>
    rw[if_neg (by simp)] at h5
    repeat' first|refine st ?_|((with_reducible first|apply A9|apply A8);(·exact hH))|(with_reducible first|apply A5|apply A4)<;>intro _
    exact⟨1,rfl,rfl,rfl,by omega,by omega,h5⟩
  ·obtain⟨k',hk'⟩:∃k',ks[i-1]?=some k':=⟨_,C5 (by omega)⟩
   have hg':(A0 ks)[((i:Int)-1).toNat]?=some [eI k']:=by
    rw[show((i:Int)-1).toNat=i-1 by omega]
    exact O2 hk'
   have hw:(0:Int)<i:=by omega
   rw[show p7 ks i=some k' by rw[p7,if_neg hi,hk']] at h5
   dsimp only at h5
   by_cases hle:k<=k'
   ·rw[if_pos hle] at h5
    rw[h5]
    repeat' first|refine st ?_|((with_reducible first|apply A9|apply A8);(·exact hH))|(with_reducible first|apply A5|apply A4)<;>intro _
    all_goals rfl
   ·rw[if_neg hle] at h5
    cases cl with
    |true=>
     rw[if_pos rfl] at h5
     rw[h5]
     repeat' first|refine st ?_|((with_reducible first|apply A9|apply A8);(·exact hH))|(with_reducible first|apply A5|apply A4)<;>intro _
     all_goals rfl
    |false=>
     rw[if_neg (by simp)] at h5
     repeat' first|refine st ?_|((with_reducible first|apply A9|apply A8);(·exact hH))|(with_reducible first|apply A5|apply A4)<;>intro _
     exact⟨i+1,rfl,rfl,rfl,by omega,by omega,h5⟩
 |none=>
  have hge:=E4.1 hx
  rw[W2 hge] at h5
  rw[h5]
  repeat' first|refine st ?_|(with_reducible first|apply A5|apply A4)<;>intro _
  all_goals first|rfl|(unfold Z9;rfl)
def n5(seen:List (List UInt8)):List Co->Int
 |[]=>0
 |c::r=>if L6 c.nm then (if 1<=c.k/\c.k<=3 then (if c.nm∈seen then 10 else n5 (seen++[c.nm]) r) else 7) else 1
def u4(l:List Co):Int:=if 1<=l.length/\l.length<=12 then n5 [] l else 13
def X1(l:List Co)(i:Nat):List (List UInt8):=(l.take i).map Co.nm
theorem B7L{l:List Co}{i:Nat}{c:Co}(h:l[i]?=some c):X1 l i++[c.nm]=X1 l (i+1):=by
 unfold X1
 rw[S0,h]
 simp
theorem B5U{l:List Co}{i:Nat}{c:Co}(h:l[i]?=some c):n5 (X1 l i) (l.drop i)=if L6 c.nm then (if 1<=c.k/\c.k<=3 then (if c.nm∈X1 l i then 10 else n5 (X1 l (i+1)) (l.drop (i+1))) else 7) else 1:=by
 obtain⟨hlt,he⟩:=B2.1 h
 rw[V2 hlt,he,<- B7L h,n5]
def W9(ns:List (List UInt8)):List (D×AV):=ns.map λs=>(.str s,.d (eI 1))
theorem A35(a b:List UInt8):Y6 .s (.str a) (.str b)=some (decide (a=b)):=by
 unfold Y6
 rw[w5,z7]
 simp
theorem B08(s:List UInt8)(kvs:List (D×AV))(h:∀p∈kvs,∃t,p.1=.str t):l6 .s (.str s) kvs:=by
 refine⟨λp hp=>?_,by rw[A35];simp⟩
 obtain⟨t,ht⟩:=h p hp
 rw[ht,A35];simp
theorem B09(ns:List (List UInt8)):∀p∈W9 ns,∃t,p.1=.str t:=by
 intro p hp
 obtain⟨s,_,rfl⟩:=E6.1 hp
 exact⟨s,rfl⟩
theorem B04{s:List UInt8}:∀{ns:List (List UInt8)},s∈ns->J2 .s (.str s) (W9 ns)=some (.d (eI 1))
 |[],h=>by cases h
 |t::ns,h=>by
  unfold W9
  rw[R6,J2,A35]
  by_cases e:s=t
  ·rw[if_pos (by rw[decide_eq_true e])]
  ·rw[if_neg (by simp[e])]
   exact B04 (by rcases L4.1 h with h|h;exact absurd h e;exact h)
theorem B7z{s:List UInt8}:∀{ns:List (List UInt8)},¬s∈ns->J2 .s (.str s) (W9 ns)=none
 |[],h=>rfl
 |t::ns,h=>by
  unfold W9
  rw[R6,J2,A35]
  rw[if_neg (by simp;intro e;exact h (by simp[e]))]
  exact B7z λh'=>h (by simp[h'])
theorem B7C{s:List UInt8}{v:AV}:∀{ns:List (List UInt8)},¬s∈ns->K9 .s (.str s) v (W9 ns)=W9 ns++[(.str s,v)]
 |[],h=>rfl
 |t::ns,h=>by
  unfold W9
  rw[R6,K9,A35]
  rw[if_neg (by simp;intro e;exact h (by simp[e]))]
  have e:K9 .s (.str s) v (W9 ns)=W9 ns++[(.str s,v)]:=B7C (λh':s∈ns=>h (M6 _ h'))
  unfold W9 at e
  rw[e];rfl
theorem B7E{s:List UInt8}{v:AV}:∀{kvs:List (D×AV)},(∀p∈kvs,∃t,p.1=.str t)->∀p∈K9 .s (.str s) v kvs,∃t,p.1=.str t
 |[],h,p,hp=>by simp[K9] at hp;subst hp;exact⟨s,rfl⟩
 |q::kvs,h,p,hp=>by
  unfold K9 at hp
  split at hp
  ·rcases L4.1 hp with rfl|hp
   ·exact⟨s,rfl⟩
   ·exact h p (by simp[hp])
  ·rcases L4.1 hp with rfl|hp
   ·exact h _ (by simp)
   ·exact B7E (λp hp=>h p (by simp[hp])) p hp
theorem B7x{s:List UInt8}{v:AV}:∀{kvs:List (D×AV)},J2 .s (.str s) (K9 .s (.str s) v kvs)=some v
 |[]=>by simp[K9,J2,A35]
 |q::kvs=>by
  unfold K9
  split
  ·simp[J2,A35]
  ·rename_i h
   rw[J2,if_neg h]
   exact B7x
theorem B6D{nm:List UInt8}:∀{l:List Co}{i j:Nat}{c:Co},l[j]?=some c->c.nm=nm->k7 nm i l=(i+j:Nat)/\¬nm∈(l.take j).map Co.nm\/(i:Int)<=k7 nm i l/\k7 nm i l<(i+j:Nat)/\nm∈(l.take j).map Co.nm
 |[],i,j,c,h,_=>by simp at h
 |d::l,i,0,c,h,e=>by
  simp only[A0X,w5] at h
  subst h
  left
  unfold k7
  rw[if_pos e]
  exact⟨by simp,by simp⟩
 |d::l,i,j+1,c,h,e=>by
  rw[Z1] at h
  unfold k7
  by_cases hd:d.nm=nm
  ·right
   rw[if_pos hd]
   exact⟨Int.le_refl _,by omega,by simp[hd]⟩
  ·rw[if_neg hd]
   rcases B6D (i:=i+1) h e with ⟨h1,h2⟩|⟨h1,h2,h3⟩
   ·left
    refine⟨by omega,?_⟩
    simp only[A2N,R6,L4,not_or]
    exact⟨λh=>hd h.symm,h2⟩
   ·right
    refine⟨by omega,by omega,?_⟩
    simp only[A2N,R6,L4]
    exact .inr h3
theorem C0R(n:List UInt8)(l:List Co)(hl:l.length<=1048576)(hls:∀c∈l,c.nm.length<=1048576)(dc dk df dx:D)(hc:B8 dc (B3 l)):Pure Tryz.prog B47 [eT n dc dk df dx] (.d (eI (u4 l))):=by
 refine C1V.go A6 rfl ?_
 have h1:=G8 l
 have hm:=I3 l
 unfold u4
 by_cases h0:1<=l.length/\l.length<=12
 rotate_left
 ·rw[if_neg h0]
  repeat' first|refine st ?_|(with_reducible first|apply A5|apply A4)<;>intro _
  all_goals first|rfl|(exfalso;omega)
 rw[if_pos h0]
 obtain⟨g1,g2⟩:=h0
 obtain⟨q,hq⟩:∃q,q=n5 [] l:=⟨_,rfl⟩
 rw[<- hq]
 repeat' first|refine st ?_|(with_reducible first|apply A5|apply A4)<;>intro _
 refine G6 A6 C4m C3w (λ(i:Nat)=>[.d (eI i)]) (λi=>[.cells [.d (.str n),.d dc,.d dk,.d df,.d dx]]) (λi=>i<=l.length/\q=n5 (X1 l i) (l.drop i)) (λi=>l.length-i) 0 rfl rfl rfl rfl (λ_ _=>⟨rfl,rfl⟩) rfl ⟨by omega,hq⟩ ?_
 repeat' first|refine st ?_|(with_reducible first|apply A5|apply A4)<;>intro _
 intro i ⟨h4,h5⟩
 cases hx:l[i]? with
 |some x=>
  have hlt:=(B2.1 hx).1
  have hg:=M8 hx
  have hN:=A8g x.nm (hls x (C3 hx))
  have hF:=C0N n l hl dc dk df dx hc x.nm
  have hff:=B6D (i:=0) hx rfl
  rw[B5U hx] at h5
  cases hv:L6 x.nm with
  |false=>
   rw[hv,if_neg (by simp)] at h5
   rw[hv] at hN
   rw[h5]
   repeat' first|refine st ?_|((with_reducible first|apply A9|apply A8);(·exact hN))|(with_reducible first|apply A5|apply A4)<;>intro _
   all_goals rfl
  |true=>
   rw[hv,if_pos rfl] at h5
   rw[hv] at hN
   by_cases hk:1<=x.k/\x.k<=3
   rotate_left
   ·rw[if_neg hk] at h5
    rw[h5]
    repeat' first|refine st ?_|((with_reducible first|apply A9|apply A8);(·exact hN))|(with_reducible first|apply A5|apply A4)<;>intro _
    all_goals first|rfl|(exfalso;omega)
   rw[if_pos hk] at h5
   obtain⟨k1,k2⟩:=hk
   by_cases hin:x.nm∈X1 l i
   ·rw[if_pos hin] at h5
    have hlti:D8 x.nm l<i:=by
     rcases hff with ⟨_,h⟩|⟨_,h,_⟩
     ·exact absurd hin h
     ·rw[D8];omega
    rw[h5]
    repeat' first|refine st ?_|((with_reducible first|apply A9|apply A8);(·first|exact hN|exact hF))|(with_reducible first|apply A5|apply A4)<;>intro _
    all_goals rfl
   ·rw[if_neg hin] at h5
    have hge:¬D8 x.nm l<i:=by
     rcases hff with ⟨h,_⟩|⟨_,_,h⟩
     ·rw[D8];omega
     ·exact absurd h hin
    repeat' first|refine st ?_|((with_reducible first|apply A9|apply A8);(·first|exact hN|exact hF))|(with_reducible first|apply A5|apply A4)<;>intro _
    exact⟨i+1,rfl,rfl,rfl,by omega,by omega,h5⟩
 |none=>
  have hge:=E4.1 hx
  rw[W2 hge] at h5
  rw[h5]
  repeat' first|refine st ?_|(with_reducible first|apply A5|apply A4)<;>intro _
  all_goals rfl
theorem C17(k:Int):Pure Tryz.prog B4H [.d (eI k)] (.d (.bool (decide (1<=k/\k<=3)))):=by
 refine C2I.go A6 rfl ?_
 repeat' first|refine st ?_|(with_reducible first|apply A5|apply A4)<;>intro _
 all_goals (simp_all<;>(intros;omega))
theorem D0c(ns:List (List UInt8))(s:List UInt8):W9 ns++[(.str s,.d (eI 1))]=W9 (ns++[s]):=by simp[W9]
theorem C14(n:List UInt8)(l:List Co)(hl:l.length<=1048576)(hls:∀c∈l,c.nm.length<=1048576)(dc dk df dx:D)(hc:B8 dc (B3 l)):Pure Tryz.prog A6Y [eT n dc dk df dx] (.d (eI (u4 l))):=by
 refine C2E.go A6 rfl ?_
 have h1:=G8 l
 have hm:=I3 l
 unfold u4
 by_cases h0:1<=l.length/\l.length<=12
 rotate_left
 ·rw[if_neg h0]
  repeat' first|refine st ?_|(with_reducible first|apply A5|apply A4)<;>intro _
  all_goals first|rfl|(exfalso;omega)
 rw[if_pos h0]
 obtain⟨g1,g2⟩:=h0
 obtain⟨q,hq⟩:∃q,q=n5 [] l:=⟨_,rfl⟩
 rw[<- hq]
 repeat' first|refine st ?_|(with_reducible first|apply A5|apply A4)<;>intro _
 refine G6 A6 C4Q C40 (λ(i:Nat)=>[.d (eI i)]) (λi=>[.cells [.d (.str n),.d dc,.d dk,.d df,.d dx],.map (W9 (X1 l i))]) (λi=>i<=l.length/\q=n5 (X1 l i) (l.drop i)) (λi=>l.length-i) 0 rfl rfl rfl rfl (λ_ _=>⟨rfl,(by simp[Y3,AO.bndB,W9,AV.bnd2B,AV.bnd1B])⟩) rfl ⟨by omega,hq⟩ ?_
 repeat' first|refine st ?_|(with_reducible first|apply A5|apply A4)<;>intro _
 intro i ⟨h4,h5⟩
 cases hx:l[i]? with
 |some x=>
  have hlt:=(B2.1 hx).1
  have hg:=M8 hx
  have hN:=A4E x.nm (hls x (C3 hx))
  have hK:=C17 x.k
  have hs:=B7L hx
  rw[B5U hx] at h5
  obtain⟨kvs,hkv⟩:∃kvs,kvs=W9 (X1 l i):=⟨_,rfl⟩
  have m1:l6 .s (.str x.nm) kvs:=by rw[hkv];exact B08 _ _ (B09 _)
  by_cases hin:x.nm∈X1 l i
  ·rw[if_pos hin] at h5
   have e1:lkR false (zv false [.int .i64 0]) (J2 .s (.str x.nm) kvs)=.d (eI 1):=by rw[hkv,B04 hin];rfl
   obtain⟨kv2,e2⟩:∃kv2,K9 .s (.str x.nm) (.d (eI 2)) kvs=kv2:=⟨_,rfl⟩
   have m2:l6 .s (.str x.nm) kv2:=by rw[<- e2,hkv];exact B08 _ _ (B7E (B09 _))
   have e3:lkR false (zv false [.int .i64 0]) (J2 .s (.str x.nm) kv2)=.d (eI 2):=by rw[<- e2,B7x];rfl
   rw[<- hkv]
   cases hv:L6 x.nm with
   |false=>
    rw[hv,if_neg (by simp)] at h5
    rw[hv] at hN
    rw[h5]
    repeat' first|refine st ?_|((with_reducible first|apply A9|apply A8);(·exact hN))|(with_reducible first|apply A5|apply A4)<;>intro _
    all_goals rfl
   |true=>
    rw[hv,if_pos rfl] at h5
    rw[hv] at hN
    by_cases hk:1<=x.k/\x.k<=3
    ·rw[if_pos hk] at h5
     rw[decide_eq_true hk] at hK
     rw[h5]
     repeat' first|refine st ?_|((with_reducible first|apply A9|apply A8);(·first|exact hN|exact hK))|(with_reducible first|apply A5|apply A4)<;>intro _
     all_goals rfl
    ·rw[if_neg hk] at h5
     rw[decide_eq_false hk] at hK
     rw[h5]
     repeat' first|refine st ?_|((with_reducible first|apply A9|apply A8);(·first|exact hN|exact hK))|(with_reducible first|apply A5|apply A4)<;>intro _
     all_goals rfl
  ·rw[if_neg hin] at h5
   have e1:lkR false (zv false [.int .i64 0]) (J2 .s (.str x.nm) kvs)=.d (eI 0):=by rw[hkv,B7z hin];rfl
   have e2:K9 .s (.str x.nm) (.d (eI 1)) kvs=W9 (X1 l (i+1)):=by rw[hkv,B7C hin,D0c,hs]
   have m2:l6 .s (.str x.nm) (W9 (X1 l (i+1))):=B08 _ _ (B09 _)
   have e3:lkR false (zv false [.int .i64 0]) (J2 .s (.str x.nm) (W9 (X1 l (i+1))))=.d (eI 1):=by rw[B04 (by rw[<- hs];simp)];rfl
   rw[<- hkv]
   cases hv:L6 x.nm with
   |false=>
    rw[hv,if_neg (by simp)] at h5
    rw[hv] at hN
    rw[h5]
    repeat' first|refine st ?_|((with_reducible first|apply A9|apply A8);(·exact hN))|(with_reducible first|apply A5|apply A4)<;>intro _
    all_goals rfl
   |true=>
    rw[hv,if_pos rfl] at h5
    rw[hv] at hN
    by_cases hk:1<=x.k/\x.k<=3
    ·rw[if_pos hk] at h5
     rw[decide_eq_true hk] at hK
     repeat' first|refine st ?_|((with_reducible first|apply A9|apply A8);(·first|exact hN|exact hK))|(with_reducible first|apply A5|apply A4)<;>intro _
     exact⟨i+1,rfl,rfl,rfl,by omega,by omega,h5⟩
    ·rw[if_neg hk] at h5
     rw[decide_eq_false hk] at hK
     rw[h5]
     repeat' first|refine st ?_|((with_reducible first|apply A9|apply A8);(·first|exact hN|exact hK))|(with_reducible first|apply A5|apply A4)<;>intro _
     all_goals rfl
 |none=>
  have hge:=E4.1 hx
  rw[W2 hge] at h5
  rw[h5]
  repeat' first|refine st ?_|(with_reducible first|apply A5|apply A4)<;>intro _
  all_goals rfl
end Go.Proofs
end
section
namespace Go.Proofs
open Go.Bi
inductive Ex where
 |mk (op n:Int) (v:Vl) (name:List UInt8) (nl:Bool) (args:List Ex)
theorem Ex.ind{p:Ex->Prop}(h:∀op n v name nl args,(∀a∈args,p a)->p (.mk op n v name nl args)):∀e,p e
 |.mk op n v name nl args=>h _ _ _ _ _ _ λa ha=>Ex.ind h a
termination_by e=>SizeOf.sizeOf e
decreasing_by
 have:=List.sizeOf_lt_of_mem ha
 simp only[Ex.mk.sizeOf_spec]
 omega
def ng(nl:Bool)(l:List (List D)):D:=if nl&&l.isEmpty then .nil else .sl l
theorem v7{nl:Bool}{l:List (List D)}:B8 (ng nl l) l:=by
 unfold ng
 split
 ·rename_i h
  simp only[K7,s5] at h
  exact .inl ⟨rfl,h.2⟩
 ·exact .inr rfl
abbrev m6(op n:Int)(v:Vl)(name:List UInt8)(d:D):List D:=[eI op,eI n,eI v.k,eI v.n,.str v.s,.str name,d]
abbrev eX(op n:Int)(v:Vl)(name:List UInt8)(d:D):AV:=.agg [.d (eI op),.d (eI n),.d (eI v.k),.d (eI v.n),.d (.str v.s),.d (.str name),.d d]
mutual
def Ex.ds:Ex->List D
 |.mk op n v name nl args=>m6 op n v name (ng nl (Ex.dss args))
def Ex.dss:List Ex->List (List D)
 |[]=>[]
 |e::es=>e.ds::Ex.dss es
end
theorem Ex.dss_eq:∀l,Ex.dss l=l.map Ex.ds
 |[]=>by simp[Ex.dss]
 |e::es=>by simp[Ex.dss,Ex.dss_eq es]
def xL(l:List Ex):List (List D):=l.map Ex.ds
theorem Ex.ds_mk(op n:Int)(v:Vl)(name:List UInt8)(nl:Bool)(args:List Ex):(Ex.mk op n v name nl args).ds=m6 op n v name (ng nl (xL args)):=by
 rw[Ex.ds,Ex.dss_eq];rfl
def Ex.av(e:Ex):AV:=.agg (e.ds.map .d)
theorem Ex.av_mk(op n:Int)(v:Vl)(name:List UInt8)(nl:Bool)(args:List Ex):(Ex.mk op n v name nl args).av=eX op n v name (ng nl (xL args)):=by
 rw[Ex.av,Ex.ds_mk];rfl
theorem I8(l:List Ex):(xL l).length=l.length:=by simp[xL]
theorem P0(l:List Ex):∀e∈xL l,e.length=7:=by
 intro e he
 obtain⟨⟨op,n,v,name,nl,args⟩,_,rfl⟩:=E6.1 he
 rw[Ex.ds_mk];rfl
theorem A1y{l:List Ex}{i:Nat}{e:Ex}(h:l[i]?=some e):(xL l)[i]?=some e.ds:=by simp[xL,h]
def Ex.bk(e:Ex):Nat:=F2 e.ds
theorem A2Z{l:List (List D)}{x:List D}(h:x∈l):F2 x<=J6 l:=by
 induction l with
 |nil=>cases h
 |cons y l ih=>
  simp only[J6]
  rcases L4.1 h with rfl|h
  ·omega
  ·have:=ih h;omega
theorem A3K{l:List (List D)}(h:∀x∈l,1<=F2 x):l.length<=J6 l:=by
 induction l with
 |nil=>exact S8 _
 |cons y l ih=>
  have h1:=h y (by simp)
  have h2:=ih λx hx=>h x (by simp[hx])
  simp only[J6,L0]
  omega
theorem Ex.bk_mk(op n:Int)(v:Vl)(name:List UInt8)(nl:Bool)(args:List Ex):J6 (xL args)+v.s.length+name.length+6<=(Ex.mk op n v name nl args).bk:=by
 rw[Ex.bk,Ex.ds_mk]
 simp only[F2,U7]
 unfold ng
 split
 ·rename_i h
  simp only[K7,s5] at h
  rw[h.2]
  simp only[U7,J6]
  omega
 ·simp only[U7];omega
theorem Ex.bk_pos(e:Ex):6<=e.bk:=by
 obtain⟨op,n,v,name,nl,args⟩:=e
 have:=Ex.bk_mk op n v name nl args
 omega
theorem B9h(l:List Ex):l.length<=J6 (xL l):=by
 rw[<- I8 l]
 refine A3K λx hx=>?_
 obtain⟨e,_,rfl⟩:=E6.1 hx
 have:=e.bk_pos
 unfold Ex.bk at this
 omega
theorem Ex.bk_arg{op n:Int}{v:Vl}{name:List UInt8}{nl:Bool}{args:List Ex}{a:Ex}(h:a∈args):a.bk<(Ex.mk op n v name nl args).bk:=by
 have h1:=Ex.bk_mk op n v name nl args
 have h2:F2 a.ds<=J6 (xL args):=A2Z (E6.2 ⟨a,h,rfl⟩)
 unfold Ex.bk at *
 omega
theorem Ex.bk_bounds{op n:Int}{v:Vl}{name:List UInt8}{nl:Bool}{args:List Ex}{B:Nat}(h:(Ex.mk op n v name nl args).bk<=B):args.length<=B/\v.s.length<=B/\name.length<=B/\∀a∈args,a.bk<=B:=by
 have h1:=Ex.bk_mk op n v name nl args
 have h2:=B9h args
 exact⟨by omega,by omega,by omega,λa ha=>by have:=Ex.bk_arg (op:=op) (n:=n) (v:=v) (name:=name) (nl:=nl) ha;omega⟩
end Go.Proofs
end
section
namespace Go.Proofs
open Go.Bi
structure Fo where
 nl:Bool
 cs:List Int
 tb:List UInt8
def Fo.d(f:Fo):D:=ng f.nl (A0 f.cs)
abbrev Fo.ds(f:Fo):List D:=[f.d,.str f.tb]
theorem Fo.sld(f:Fo):B8 f.d (A0 f.cs):=v7
def H9(l:List Fo):List (List D):=l.map Fo.ds
theorem A1M(l:List Fo):(H9 l).length=l.length:=by simp[H9]
theorem A3T{l:List Fo}{i:Nat}{f:Fo}(h:l[i]?=some f):(H9 l)[i]?=some f.ds:=by simp[H9,h]
theorem A3U(l:List Fo):∀e∈H9 l,e.length=2:=by
 intro e he
 obtain⟨x,_,rfl⟩:=E6.1 he
 rfl
def n7(n:Nat)(seen:List Int):List Int->Int
 |[]=>0
 |c::r=>if (0<=c/\c<n)/\¬c∈seen then n7 n (seen++[c]) r else 25
def A0e(n:Nat)(f:Fo):Int:=if L6 f.tb then (if f.cs.length=0 then 25 else n7 n [] f.cs) else 1
theorem B6q{n:Nat}{l:List Int}{i:Nat}{c:Int}(h:l[i]?=some c):n7 n (l.take i) (l.drop i)=if (0<=c/\c<n)/\¬c∈l.take i then n7 n (l.take (i+1)) (l.drop (i+1)) else 25:=by
 obtain⟨hlt,he⟩:=B2.1 h
 rw[V2 hlt,he,n7,S0,h]
 rfl
end Go.Proofs
end
section
namespace Go.Proofs
open Go.Bi
theorem C0T(n:List UInt8)(l:List Co)(hl:l.length<=1048576)(dc dk df dx:D)(hc:B8 dc (B3 l))(f:Fo)(hf:f.cs.length<=1048576)(hft:f.tb.length<=1048576):Pure Tryz.prog B4a [eT n dc dk df dx,.agg [.d f.d,.d (.str f.tb)]] (.d (eI (A0e l.length f))):=by
 refine C1Y.go A6 rfl ?_
 have h1:=B6 f.cs
 have hm:=D4 f.cs
 have hsd:=f.sld
 have hN:=A8g f.tb hft
 obtain⟨nl,cs,tb⟩:=f
 obtain⟨fd,hfd⟩:∃fd,fd=Fo.d ⟨nl,cs,tb⟩:=⟨_,rfl⟩
 rw[<- hfd] at hsd ⊢
 dsimp only at h1 hm hsd hN hf ⊢
 unfold A0e
 dsimp only
 cases hv:L6 tb with
 |false=>
  rw[hv] at hN
  rw[if_neg (by simp)]
  repeat' first|refine st ?_|((with_reducible first|apply A9|apply A8);(·exact hN))|(with_reducible first|apply A5|apply A4)<;>intro _
  all_goals rfl
 |true=>
 rw[hv] at hN
 rw[if_pos rfl]
 by_cases h0:cs.length=0
 ·rw[if_pos h0]
  repeat' first|refine st ?_|((with_reducible first|apply A9|apply A8);(·exact hN))|(with_reducible first|apply A5|apply A4)<;>intro _
  all_goals first|rfl|(exfalso;omega)
 rw[if_neg h0]
 obtain⟨q,hq⟩:∃q,q=n7 l.length [] cs:=⟨_,rfl⟩
 rw[<- hq]
 repeat' first|refine st ?_|((with_reducible first|apply A9|apply A8);(·exact hN))|(with_reducible first|apply A5|apply A4)<;>intro _
 refine G6 A6 C4q C3A (λ(i:Nat)=>[.d (eI i)]) (λi=>[.cells [.d (.str n),.d dc,.d dk,.d df,.d dx],.cells [.d fd,.d (.str tb)]]) (λi=>i<=cs.length/\q=n7 l.length (cs.take i) (cs.drop i)) (λi=>cs.length-i) 0 rfl rfl rfl rfl (λ_ _=>⟨rfl,rfl⟩) rfl ⟨by omega,hq⟩ ?_
 repeat' first|refine st ?_|(with_reducible first|apply A5|apply A4)<;>intro _
 intro i ⟨h4,h5⟩
 cases hx:cs[i]? with
 |some c=>
  have hlt:=(B2.1 hx).1
  have hg:=O2 hx
  have hE:=B1h n l hl dc dk df dx hc c
  rw[B6q hx] at h5
  by_cases hin:0<=c/\c<l.length
  rotate_left
  ·rw[if_neg (λh=>hin h.1)] at h5
   rw[decide_eq_false hin] at hE
   rw[h5]
   repeat' first|refine st ?_|((with_reducible first|apply A9|apply A8);(·exact hE))|(with_reducible first|apply A5|apply A4)<;>intro _
   all_goals rfl
  rw[decide_eq_true hin] at hE
  repeat' first|refine st ?_|((with_reducible first|apply A9|apply A8);(·exact hE))|(with_reducible first|apply A5|apply A4)<;>intro _
  refine G6 A6 C4p C3z (λ(k:Nat)=>[.d (eI k)]) (λk=>[.cells [.d (.str n),.d dc,.d dk,.d df,.d dx],.cells [.d fd,.d (.str tb)]]) (λk=>k<=i/\¬c∈cs.take k) (λk=>i-k) 0 rfl rfl rfl rfl (λ_ _=>⟨rfl,rfl⟩) rfl ⟨by omega,by simp⟩ ?_
  repeat' first|refine st ?_|(with_reducible first|apply A5|apply A4)<;>intro _
  intro k ⟨h6,h7⟩
  by_cases hk:k<i
  ·obtain⟨c',hc'⟩:∃c',cs[k]?=some c':=⟨_,C5 (by omega)⟩
   have hg':=O2 hc'
   by_cases he:c'=c
   ·have hmem:c∈cs.take i:=by
     rw[<- he]
     exact C3 (i:=k) (by rw[A6D hk];exact hc')
    rw[if_neg (λh=>h.2 hmem)] at h5
    rw[h5]
    repeat' first|refine st ?_|(with_reducible first|apply A5|apply A4)<;>intro _
    all_goals rfl
   ·repeat' first|refine st ?_|(with_reducible first|apply A5|apply A4)<;>intro _
    refine⟨k+1,rfl,rfl,rfl,by omega,by omega,?_⟩
    rw[S0,hc']
    intro hmem
    rcases R3.1 hmem with h|h
    ·exact h7 h
    ·simp at h;exact he h.symm
  ·have:k=i:=by omega
   subst this
   rw[if_pos ⟨hin,h7⟩] at h5
   repeat' first|refine st ?_|(with_reducible first|apply A5|apply A4)<;>intro _
   exact⟨k+1,rfl,rfl,rfl,by omega,by omega,h5⟩
 |none=>
  have hge:=E4.1 hx
  rw[W2 hge] at h5
  rw[h5]
  repeat' first|refine st ?_|(with_reducible first|apply A5|apply A4)<;>intro _
  all_goals rfl
end Go.Proofs
end
section
namespace Go.Proofs
open Go.Bi
def X0(ns:List Int):List (D×AV):=ns.map λs=>(eI s,.d (eI 1))
theorem A0I(a b:Int):Y6 .i (eI a) (eI b)=some (decide (a=b)):=by
 show(if IntKind.i64=IntKind.i64 then some (a==b) else none)=_
 rw[if_pos rfl,w5,z7]
 simp
theorem A5T(s:Int)(kvs:List (D×AV))(h:∀p∈kvs,∃t,p.1=eI t):l6 .i (eI s) kvs:=by
 refine⟨λp hp=>?_,by rw[A0I];simp⟩
 obtain⟨t,ht⟩:=h p hp
 rw[ht,A0I];simp
theorem B0a(ns:List Int):∀p∈X0 ns,∃t,p.1=eI t:=by
 intro p hp
 obtain⟨s,_,rfl⟩:=E6.1 hp
 exact⟨s,rfl⟩
theorem B05{s:Int}:∀{ns:List Int},s∈ns->J2 .i (eI s) (X0 ns)=some (.d (eI 1))
 |[],h=>by cases h
 |t::ns,h=>by
  unfold X0
  rw[R6,J2,A0I]
  by_cases e:s=t
  ·rw[if_pos (by rw[decide_eq_true e])]
  ·rw[if_neg (by simp[e])]
   exact B05 (by rcases L4.1 h with h|h;exact absurd h e;exact h)
theorem B7A{s:Int}:∀{ns:List Int},¬s∈ns->J2 .i (eI s) (X0 ns)=none
 |[],h=>rfl
 |t::ns,h=>by
  unfold X0
  rw[R6,J2,A0I]
  rw[if_neg (by simp;intro e;exact h (by simp[e]))]
  exact B7A λh'=>h (by simp[h'])
theorem B7D{s:Int}{v:AV}:∀{ns:List Int},¬s∈ns->K9 .i (eI s) v (X0 ns)=X0 ns++[(eI s,v)]
 |[],h=>rfl
 |t::ns,h=>by
  unfold X0
  rw[R6,K9,A0I]
  rw[if_neg (by simp;intro e;exact h (by simp[e]))]
  have e:K9 .i (eI s) v (X0 ns)=X0 ns++[(eI s,v)]:=B7D (λh':s∈ns=>h (M6 _ h'))
  unfold X0 at e
  rw[e];rfl
theorem B7F{s:Int}{v:AV}:∀{kvs:List (D×AV)},(∀p∈kvs,∃t,p.1=eI t)->∀p∈K9 .i (eI s) v kvs,∃t,p.1=eI t
 |[],h,p,hp=>by simp[K9] at hp;subst hp;exact⟨s,rfl⟩
 |q::kvs,h,p,hp=>by
  unfold K9 at hp
  split at hp
  ·rcases L4.1 hp with rfl|hp
   ·exact⟨s,rfl⟩
   ·exact h p (by simp[hp])
  ·rcases L4.1 hp with rfl|hp
   ·exact h _ (by simp)
   ·exact B7F (λp hp=>h p (by simp[hp])) p hp
theorem B06{s:Int}{v:AV}:∀{kvs:List (D×AV)},J2 .i (eI s) (K9 .i (eI s) v kvs)=some v
 |[]=>by simp[K9,J2,A0I]
 |q::kvs=>by
  unfold K9
  split
  ·simp[J2,A0I]
  ·rename_i h
   rw[J2,if_neg h]
   exact B06
theorem D0a(ns:List Int)(s:Int):X0 ns++[(eI s,.d (eI 1))]=X0 (ns++[s]):=by simp[X0]
theorem D0b(ns:List Int)(m:Nat):(AO.map (X0 ns)).bndB m=true:=by
 refine N9.2 λp hp=>?_
 obtain⟨s,_,rfl⟩:=E6.1 hp
 rfl
def V6(n:Nat):List Fo->Int
 |[]=>0
 |f::r=>if A0e n f=0 then V6 n r else A0e n f
def A3Z(n:Nat)(l:List Fo):Int:=if l.length<=4 then V6 n l else 5
theorem B6T{n:Nat}{l:List Fo}{i:Nat}{f:Fo}(h:l[i]?=some f):V6 n (l.drop i)=if A0e n f=0 then V6 n (l.drop (i+1)) else A0e n f:=by
 obtain⟨hlt,he⟩:=B2.1 h
 rw[V2 hlt,he];rfl
theorem C15(n:List UInt8)(l:List Co)(hl:l.length<=1048576)(fs:List Fo)(hfl:fs.length<=1048576)(hfc:∀f∈fs,f.cs.length<=1048576/\f.tb.length<=1048576)(dc dk df dx:D)(hc:B8 dc (B3 l))(hdf:B8 df (H9 fs)):Pure Tryz.prog A6Z [eT n dc dk df dx] (.d (eI (A3Z l.length fs))):=by
 refine C2F.go A6 rfl ?_
 have h1:=A1M fs
 have hm:=A3U fs
 unfold A3Z
 by_cases h0:fs.length<=4
 rotate_left
 ·rw[if_neg h0]
  repeat' first|refine st ?_|(with_reducible first|apply A5|apply A4)<;>intro _
  all_goals first|rfl|(exfalso;omega)
 rw[if_pos h0]
 obtain⟨q,hq⟩:∃q,q=V6 l.length fs:=⟨_,rfl⟩
 rw[<- hq]
 repeat' first|refine st ?_|(with_reducible first|apply A5|apply A4)<;>intro _
 refine G6 A6 C4S C42 (λ(i:Nat)=>[.d (eI i)]) (λi=>[.cells [.d (.str n),.d dc,.d dk,.d df,.d dx]]) (λi=>i<=fs.length/\q=V6 l.length (fs.drop i)) (λi=>fs.length-i) 0 rfl rfl rfl rfl (λ_ _=>⟨rfl,rfl⟩) rfl ⟨by omega,hq⟩ ?_
 repeat' first|refine st ?_|(with_reducible first|apply A5|apply A4)<;>intro _
 intro i ⟨h4,h5⟩
 cases hx:fs[i]? with
 |some f=>
  have hlt:=(B2.1 hx).1
  have hg:=A3T hx
  obtain⟨hf,hft⟩:=hfc f (C3 hx)
  have hN:=A4E f.tb hft
  rw[B6T hx] at h5
  have k1:=B6 f.cs
  have k2:=D4 f.cs
  have hsd:=f.sld
  obtain⟨nl,cs,tb⟩:=f
  have hg:(H9 fs)[i]?=some [Fo.d ⟨nl,cs,tb⟩,.str tb]:=hg
  obtain⟨fd,hfd⟩:∃fd,fd=Fo.d ⟨nl,cs,tb⟩:=⟨_,rfl⟩
  rw[<- hfd] at hsd hg
  dsimp only at k1 k2 hsd hN hf
  obtain⟨e,he⟩:∃e,e=A0e l.length ⟨nl,cs,tb⟩:=⟨_,rfl⟩
  rw[<- he] at h5
  unfold A0e at he
  dsimp only at he
  cases hv:L6 tb with
  |false=>
   rw[hv] at hN
   rw[hv,if_neg (by simp)] at he
   rw[he,if_neg (by decide)] at h5
   rw[h5]
   repeat' first|refine st ?_|((with_reducible first|apply A9|apply A8);(·exact hN))|(with_reducible first|apply A5|apply A4)<;>intro _
   all_goals rfl
  |true=>
   rw[hv] at hN
   rw[hv,if_pos rfl] at he
   have hcF:e=0->¬cs.length=0/\n7 l.length [] cs=0:=λh=>by
    by_cases g:cs.length=0
    ·rw[if_pos g] at he;omega
    ·rw[if_neg g] at he;exact⟨g,by omega⟩
   have hcF2:n7 l.length [] cs=25->e=25:=λh=>by
    by_cases g:cs.length=0
    ·rw[if_pos g] at he;exact he
    ·rw[if_neg g] at he;omega
   repeat' first|refine st ?_|((with_reducible first|apply A9|apply A8);(·exact hN))|(with_reducible first|apply A5|apply A4)<;>intro _
   refine G6 A6 C4R C41 (λ(k:Nat)=>[.d (eI k)]) (λk=>[.cells [.d (.str n),.d dc,.d dk,.d df,.d dx],.cells [.d fd,.d (.str tb)],.map (X0 (cs.take k))]) (λk=>k<=cs.length/\n7 l.length [] cs=n7 l.length (cs.take k) (cs.drop k)) (λk=>cs.length-k) 0 rfl rfl rfl rfl (λ_ _=>⟨rfl,(by rw[Y3,Y3,Y3,D0b];rfl)⟩) rfl ⟨by omega,rfl⟩ ?_
   repeat' first|refine st ?_|(with_reducible first|apply A5|apply A4)<;>intro _
   intro k ⟨h6,h7⟩
   cases hy:cs[k]? with
   |some c=>
    have hlt2:=(B2.1 hy).1
    have hg2:=O2 hy
    have hH:=B1k n l hl dc dk df dx hc c
    rw[B6q hy] at h7
    obtain⟨kvs,hkv⟩:∃kvs,kvs=X0 (cs.take k):=⟨_,rfl⟩
    have m1:l6 .i (eI c) kvs:=by rw[hkv];exact A5T _ _ (B0a _)
    have hts:cs.take k++[c]=cs.take (k+1):=by rw[S0,hy];rfl
    by_cases hin:c∈cs.take k
    ·rw[if_neg (λh=>h.2 hin)] at h7
     have e25:=hcF2 h7
     rw[e25,if_neg (by decide)] at h5
     have e1:lkR false (zv false [.int .i64 0]) (J2 .i (eI c) kvs)=.d (eI 1):=by rw[hkv,B05 hin];rfl
     obtain⟨kv2,e2⟩:∃kv2,K9 .i (eI c) (.d (eI 2)) kvs=kv2:=⟨_,rfl⟩
     have m2:l6 .i (eI c) kv2:=by rw[<- e2,hkv];exact A5T _ _ (B7F (B0a _))
     have e3:lkR false (zv false [.int .i64 0]) (J2 .i (eI c) kv2)=.d (eI 2):=by rw[<- e2,B06];rfl
     rw[<- hkv]
     rw[h5]
     by_cases hh:0<=c/\c<l.length
     ·rw[decide_eq_true hh] at hH
      repeat' first|refine st ?_|((with_reducible first|apply A9|apply A8);(·exact hH))|(with_reducible first|apply A5|apply A4)<;>intro _
      all_goals rfl
     ·rw[decide_eq_false hh] at hH
      repeat' first|refine st ?_|((with_reducible first|apply A9|apply A8);(·exact hH))|(with_reducible first|apply A5|apply A4)<;>intro _
      all_goals rfl
    ·have e1:lkR false (zv false [.int .i64 0]) (J2 .i (eI c) kvs)=.d (eI 0):=by rw[hkv,B7A hin];rfl
     have e2:K9 .i (eI c) (.d (eI 1)) kvs=X0 (cs.take (k+1)):=by rw[hkv,B7D hin,D0a,hts]
     have m2:l6 .i (eI c) (X0 (cs.take (k+1))):=A5T _ _ (B0a _)
     have e3:lkR false (zv false [.int .i64 0]) (J2 .i (eI c) (X0 (cs.take (k+1))))=.d (eI 1):=by rw[B05 (by rw[<- hts];simp)];rfl
     rw[<- hkv]
     by_cases hh:0<=c/\c<l.length
     ·rw[decide_eq_true hh] at hH
      rw[if_pos ⟨hh,hin⟩] at h7
      repeat' first|refine st ?_|((with_reducible first|apply A9|apply A8);(·exact hH))|(with_reducible first|apply A5|apply A4)<;>intro _
      exact⟨k+1,rfl,rfl,rfl,by omega,by omega,h7⟩
     ·rw[decide_eq_false hh] at hH
      rw[if_neg (λh=>hh h.1)] at h7
      have e25:=hcF2 h7
      rw[e25,if_neg (by decide)] at h5
      rw[h5]
      repeat' first|refine st ?_|((with_reducible first|apply A9|apply A8);(·exact hH))|(with_reducible first|apply A5|apply A4)<;>intro _
      all_goals rfl
   |none=>
    have hge2:=E4.1 hy
    rw[W2 hge2] at h7
    have h7:n7 l.length [] cs=0:=h7
    by_cases g:cs.length=0
    ·rw[if_pos g] at he
     rw[he,if_neg (by decide)] at h5
     rw[h5]
     repeat' first|refine st ?_|(with_reducible first|apply A5|apply A4)<;>intro _
     all_goals first|rfl|(exfalso;omega)
    ·rw[if_neg g,h7] at he
     rw[if_pos he] at h5
     repeat' first|refine st ?_|(with_reducible first|apply A5|apply A4)<;>intro _
     exact⟨i+1,rfl,rfl,rfl,by omega,by omega,h5⟩
 |none=>
  have hge:=E4.1 hx
  rw[W2 hge] at h5
  rw[h5]
  repeat' first|refine st ?_|(with_reducible first|apply A5|apply A4)<;>intro _
  all_goals rfl
end Go.Proofs
end
