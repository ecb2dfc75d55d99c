/- Texts of this claim, joined. No condition. -/
import Derived.Test.YtnhhopmldgpglaaGreatBi
import Derived.Test.YtnhhopmldgpglaaGreatIc0
import Derived.Test.YtnhhopmldgpglaaGreatIc1
import Derived.Lib.Strings
import Derived.Lib.Slices
import Derived.Lib.Walk
import Derived.Lib.Bytealg
set_option linter.unusedSimpArgs false
set_option linter.unusedVariables false
set_option maxRecDepth 10000
set_option maxHeartbeats 4000000
section
namespace Go.Bi
open Go
section
variable {P:Program}{n nb:Nat}{M:C5}{G:Gh}{os:List AO}{w:World}{ρ:C7}{a:Act}
def A65(Q:AV->List AO->Prop)(rs:List RV)(ρ:C7)(os:List AO):Prop:=g9 ρ os rs λl=>match l with
 |[v]=>Q v os
 |_=>False
def A63(Q:AV->List AO->Prop)(rs:List RV)(L:Sl)(os:List AO):Prop:=A3k L os rs λl=>match l with
 |[v]=>Q v os
 |_=>False
theorem B8U{Q:AV->List AO->Prop}{rs:List RV}{L:Sl}{os:List AO}(h:A63 Q rs L os):A65 Q rs (D5 L) os:=A4h h
theorem D2j{c:s6}(hR:W6 n nb c M G os w ρ a){fn:Func}{rs:List RV}(hrs:fn.results.toList.mapM (cRV P)=some rs){Q:AV->List AO->Prop}(h:A65 Q rs ρ os) :
  ∃v,(results fn a.tmps).run P w=.ok v w/\∃M' G' r os',C3 M' G' os' w/\E3 c.M c.G c.os c.w M' G' os' w/\VA M' G' os' r v/\Q r os':=by
 obtain⟨l,vs,h1,h2,h3,h4⟩:=A7K hR.env hR.tmps _ rs hrs _ h
 match l,h1,h3,h4 with
 |[x],h1,h3,h4=>
  simp only[N9,X7] at h3
  refine⟨_,B0n h2,M,G,x,os,hR.env,hR.since,?_,h1⟩
  rw[dif_pos (by omega)]
  exact h4 0 x vs[0] rfl (C9 (by omega))
theorem D0x(hm:P.follows .mixedOrders=true){f:FuncId}{fn:Func}{code:Code}{ic:IC}{rs:List RV}(hf:P.funcs[f]?=some fn)(hname:fn.name≠ "runtime.NumGoroutine")(hb:fn.body=some code)(hc:cC P fn.ntmps code=some ic)
  (hrs:fn.results.toList.mapM (cRV P)=some rs) {args:List AV} {bs:List AO} (hargs:args.length<=fn.ntmps) {Q:AV->List AO->Prop}
  (h:V9 P fn.ntmps bs.length ic {norm:=A65 Q rs,exit:=λ_ _ _=>False,ret:=A65 Q rs} (A12 args) bs):B4 P f args bs Q:=by
 refine⟨⟨fn,hf,by rw[hb];rfl,hname⟩,λM G w vs he hl hv=>?_⟩
 refine calls_of_wp hf hb (wp_mono (A6m hm code ic hc _ _ _ h ⟨M,G,bs,w⟩ M G w {tmps:=vs++Array.replicate (fn.ntmps-vs.size) undef,defers:=[]} ?_) λe a' w' hp=>?_)
 ·exact {
   env:=he,since:=E3.refl ..,size:=by simp;omega,defers:=rfl,base:=rfl
   tmps:=λt=>by
    unfold A12
    by_cases ht:t<args.length
    ·have h1:(vs++Array.replicate (fn.ntmps-vs.size) undef).getD t undef=vs[t]:=by
      simp[A23 (show t<vs.size by omega),show t<vs.size by omega]
     have h2:args.getD t .junk=args[t]:=by simp[ht]
     show VA M G bs (args.getD t .junk) ((vs++Array.replicate (fn.ntmps-vs.size) undef).getD t undef)
     rw[h1,h2]
     have:=hv t args[t] vs[t] (C9 ht) (K5 (by omega))
     generalize args[t]=c at this
     cases c with
     |tup cs=>exact this.elim
     |junk=>trivial
     |_=>exact this
    ·have:args.getD t .junk=.junk:=by simp[G9,A0a (Nat.le_of_not_lt ht)]
     rw[this]
     trivial}
 ·have fin:A09 fn.ntmps bs.length ⟨M,G,bs,w⟩ (A65 Q rs) a' w'->a'.defers=[]/\∃v,(results fn a'.tmps).run P w'=.ok v w'/\∃v',Ending.returned v=.returned v'/\∃M' G' r os',C3 M' G' os' w'/\E3 M G bs w M' G' os' w'/\VA M' G' os' r v'/\Q r os':=by
   rintro⟨M',G',os',ρ',hR,hk⟩
   obtain⟨v,h1,h2⟩:=D2j hR hrs hk
   exact⟨hR.defers,v,h1,v,rfl,h2⟩
  cases e with
  |normal=>exact fin hp
  |ret=>exact fin hp
  |exit id=>obtain⟨_,_,_,_,_,hk⟩:=hp;exact hk.elim
  |_=>exact hp.elim
end
theorem C1.goO{P:Program}(hm:P.follows .mixedOrders=true){f n:Nat}{ic:IC}{rs:List RV}(h:C1 P f n ic rs){args:List AV}{bs:List AO}(hargs:Nat.ble args.length n=true){Q:AV->List AO->Prop}
  (hw:Go (xI P n bs.length ic (A63 Q rs) (λ_ _ _=>False) (A63 Q rs) (A0E 0 args) bs)):B4 P f args bs Q:=by
 obtain⟨fn,h1,h2,h3,h4,h5⟩:=h
 obtain⟨code,hb,hc⟩:=Y5.1 h4
 subst h2
 refine D0x hm h1 (by simpa using h3) hb hc h5 (P2 hargs) ?_
 rw[B09]
 exact A3j (K:=⟨A63 Q rs,λ_ _ _=>False,A63 Q rs⟩) ⟨λL os h=>B8U h,λ_ _ _ h=>h,λL os h=>B8U h⟩ hw
theorem B4.alone{P:Program}{g:FuncId}{args:List AV}{Q:AV->List AO->Prop}(h:B4 P g args [] Q)(hd:∀a∈args,∃x,a=.d x)(os:List AO) :
  B4 P g args os (λr os'=>∃r0 os0,Q r0 os0/\r=mA (rn [] os.length) r0/\os'=os++os0.map (mO (rn [] os.length))):=by
 have:=B4.frame (K:=λr os'=>∃r0 os0,Q r0 os0/\r=mA (rn [] os.length) r0/\os'=os++os0.map (mO (rn [] os.length))) h [] os rfl (by simp) (λi x hx=>by simp at hx)
  (λa ha=>by obtain⟨x,rfl⟩:=hd a ha;trivial) (λx hx=>by simp at hx) (λr bs' hq=>⟨r,bs',hq,rfl,rfl⟩)
 have e:args.map (mG (rn [] os.length))=args:=by
  rw[S8 (g:=id) (λa ha=>by obtain⟨x,rfl⟩:=hd a ha;rfl),w9]
 rwa [e] at this
end Go.Bi
end
section
namespace Go.Proofs
open Go.Bi
abbrev eI(n:Int):D:=.int .i64 n
def A0(l:List Int):List (List D):=l.map λr=>[eI r]
theorem J9{l:List Int}{i:Nat}{r:Int}(h:l[i]?=some r):(A0 l)[i]?=some [eI r]:=by simp[A0,h]
theorem B6(l:List Int):(A0 l).length=l.length:=by simp[A0]
theorem D2(l:List Int):∀e∈A0 l,e.length=1:=by
 intro e he
 obtain⟨x,_,rfl⟩:=F2.1 he
 rfl
theorem A2Q{α:Type}{f:α->Bool}{l:List α}{i:Nat}{x:α}(h:l[i]?=some x):(l.take (i+1)).all f=((l.take i).all f&&f x):=by
 simp only[P5,h,List.all_append,Option.toList,m6,List.all_nil,Bool.and_true]
theorem A3A{α:Type}{f:α->Bool}{l:List α}{i:Nat}{x:α}(h:l[i]?=some x)(hx:f x=false):l.all f=false:=by
 rw[Bool.eq_false_iff]
 intro ha
 rw[O3.1 ha x (C2 h)] at hx
 cases hx
def valid(a b:Int):Bool:=decide (0<=a/\a<b/\b<=1099511627776)
structure Vl where
 k:Int
 n:Int
 s:List UInt8
 deriving DecidableEq
abbrev Vl.ds(v:Vl):List D:=[eI v.k,eI v.n,.str v.s]
abbrev eV(v:Vl):AV:=.agg [.d (eI v.k),.d (eI v.n),.d (.str v.s)]
def U6:Vl:=⟨0,0,[]⟩
def prC(c:UInt8):Bool:=decide (32<=c.toNat/\c.toNat<=126)
def prB(s:List UInt8):Bool:=s.all prC
def A0u(v:Vl):Bool:=
 if v.k=0 then decide (v.n=0/\v.s=[])
 else if v.k=1 then decide (v.s=[]/\-1125899906842624<=v.n/\v.n<=1125899906842624)
 else if v.k=2 then decide (v.n=0/\v.s.length<=200)&&prB v.s
 else if v.k=3 then decide (v.s=[]/\(v.n=0\/v.n=1)) else false
theorem C1U(s:List UInt8)(hs:s.length<=4611686018427387904):Pure Tryz.prog B5A [.d (.str s)] (.d (.bool (prB s))):=by
 refine C3r.go A6 rfl ?_
 repeat' first|refine st ?_|((with_reducible apply D3);conv=>whnf)|(with_reducible first|apply A5|apply A4)<;>intro _
 refine F3 A6 C63 C4X (λ(i:Nat)=>[.d (eI i)]) (λi=>[]) (λi=>i<=s.length/\(s.take i).all prC=true) (λi=>s.length-i) 0 rfl rfl rfl rfl (λ_ _=>⟨rfl,rfl⟩) rfl ⟨by omega,rfl⟩ ?_
 repeat' first|refine st ?_|((with_reducible apply D3);conv=>whnf)|(with_reducible first|apply A5|apply A4)<;>intro _
 intro i ⟨h1,h2⟩
 cases hx:s[i]? with
 |some c=>
  have hlt:=(B2.1 hx).1
  have hg:s.getD ((i:Int)).toNat 0=c:=by simp[G9,hx]
  repeat' first|refine st ?_|((with_reducible apply D3);conv=>whnf)|(with_reducible first|apply A5|apply A4)<;>intro _
  ·rename_i h
   rw[hg] at h
   rw[prB,A3A hx (decide_eq_false (by omega))]
  ·rename_i h h'
   rw[hg] at h h'
   rw[prB,A3A hx (decide_eq_false (by omega))]
  ·rename_i h h'
   rw[hg] at h h'
   refine⟨i+1,rfl,rfl,rfl,by omega,by omega,?_⟩
   rw[A2Q hx,h2,prC,decide_eq_true (by omega)];rfl
 |none=>
  have hge:=D1.1 hx
  rw[L0 hge] at h2
  repeat' first|refine st ?_|((with_reducible apply D3);conv=>whnf)|(with_reducible first|apply A5|apply A4)<;>intro _
  rw[prB,h2]
theorem C1A(s:List UInt8)(hs:s.length<=4611686018427387904):Pure Tryz.prog B4v [.d (.str s)] (.d (.bool (prB s))):=by
 refine C20.go A6 rfl ?_
 repeat' first|refine st ?_|((with_reducible apply D3);conv=>whnf)|(with_reducible first|apply A5|apply A4)<;>intro _
 refine F3 A6 C51 C3V (λ(i:Nat)=>[.d (eI i)]) (λi=>[]) (λi=>i<=s.length/\(s.take i).all prC=true) (λi=>s.length-i) 0 rfl rfl rfl rfl (λ_ _=>⟨rfl,rfl⟩) rfl ⟨by omega,rfl⟩ ?_
 repeat' first|refine st ?_|((with_reducible apply D3);conv=>whnf)|(with_reducible first|apply A5|apply A4)<;>intro _
 intro i ⟨h1,h2⟩
 cases hx:s[i]? with
 |some c=>
  have hlt:=(B2.1 hx).1
  have hg:s.getD ((i:Int)).toNat 0=c:=by simp[G9,hx]
  repeat' first|refine st ?_|((with_reducible apply D3);conv=>whnf)|(with_reducible first|apply A5|apply A4)<;>intro _
  ·rename_i h
   rw[hg] at h
   rw[prB,A3A hx (decide_eq_false (by omega))]
  ·rename_i h h'
   rw[hg] at h h'
   rw[prB,A3A hx (decide_eq_false (by omega))]
  ·rename_i h h'
   rw[hg] at h h'
   refine⟨i+1,rfl,rfl,rfl,by omega,by omega,?_⟩
   rw[A2Q hx,h2,prC,decide_eq_true (by omega)];rfl
 |none=>
  have hge:=D1.1 hx
  rw[L0 hge] at h2
  repeat' first|refine st ?_|((with_reducible apply D3);conv=>whnf)|(with_reducible first|apply A5|apply A4)<;>intro _
  rw[prB,h2]
theorem B1g(v:Vl)(hs:v.s.length<=4611686018427387904):Pure Tryz.prog A94 [eV v] (.d (.bool (A0u v))):=by
 refine C3q.go A6 rfl ?_
 have hP:=C1U v.s hs
 repeat' first|refine st ?_|((with_reducible apply D3);conv=>whnf)|((with_reducible first|apply A8|apply A7);(·exact hP))|(with_reducible first|apply A5|apply A4)<;>intro _
 all_goals (simp_all[A0u]<;>omega)
theorem B1a(v:Vl)(hs:v.s.length<=4611686018427387904):Pure Tryz.prog A8B [eV v] (.d (.bool (A0u v))):=by
 refine C21.go A6 rfl ?_
 have hP:=C1A v.s hs
 repeat' first|refine st ?_|((with_reducible apply D3);conv=>whnf)|((with_reducible first|apply A8|apply A7);(·exact hP))|(with_reducible first|apply A5|apply A4)<;>intro _
 all_goals (simp_all[A0u]<;>omega)
theorem A2I:Pure Tryz.prog A4T [] (eV U6):=by
 refine C1Z.go A6 rfl ?_
 repeat' first|refine st ?_|((with_reducible apply D3);conv=>whnf)|(with_reducible first|apply A5|apply A4)<;>intro _
 all_goals rfl
end Go.Proofs
end
section
set_option maxRecDepth 100000
set_option maxHeartbeats 8000000
namespace Go.Proofs
open Go.Bi
def A1w:List (List UInt8):=[[97,100,100],[97,102,116,101,114],[97,108,108],[97,108,116,101,114],[97,110,100],[97,115],[98,101,102,111,114,101],[98,101,103,105,110],[98,101,116,119,101,101,110],[98,111,111,108],[98,121],[99,104,101,99,107],[99,111,97,108,101,115,99,101],[99,111,109,109,105,116],[99,111,110,116,97,105,110,115],[99,111,117,110,116],[99,114,101,97,116,101],[100,101,102,97,117,108,116],[100,101,108,101,116,101],[100,101,115,99],[100,105,115,116,105,110,99,116],[100,114,111,112],[100,117,114,105,110,103],[101,113,117,97,108,115],[101,120,99,101,112,116],[102,97,108,115,101],[102,105,110,105,115,104,101,100,98,121],[102,105,110,105,115,104,101,115],[102,111,114,101,105,103,110],[102,111,114,101,118,101,114],[102,114,111,109],[103,114,111,117,112],[104,111,108,100],[105,102],[105,110,115,101,114,116],[105,110,116],[105,110,116,101,114,115,101,99,116],[105,110,116,111],[105,115],[106,111,105,110],[107,101,121],[108,101,102,116],[108,101,110,103,116,104],[108,105,109,105,116],[109,97,120],[109,101,101,116,115],[109,101,116,98,121],[109,105,110],[110,111,110,115,101,113,117,101,110,99,101,100],[110,111,116],[110,111,119],[110,117,108,108],[111,102],[111,110],[111,114],[111,114,100,101,114],[111,118,101,114,108,97,112,112,101,100,98,121],[111,118,101,114,108,97,112,115],[112,114,105,109,97,114,121],[112,114,117,110,101],[114,101,102,101,114,101,110,99,101,115],[114,101,108,101,97,115,101],[114,101,110,97,109,101],[114,101,116,97,105,110],[114,111,108,108,98,97,99,107],[115,101,108,101,99,116],[115,101,113,117,101,110,99,101,100],[115,101,116],[115,116,97,114,116,101,100,98,121],[115,116,97,114,116,115],[115,117,109],[115,121,115,116,101,109],[115,121,115,116,101,109,102,114,111,109],[115,121,115,116,101,109,116,111],[116,97,98,108,101],[116,101,120,116],[116,111],[116,114,117,101],[116,120],[117,110,100,101,114],[117,110,105,111,110],[117,112,100,97,116,101],[118,97,108,105,100],[118,97,108,105,100,102,114,111,109],[118,97,108,105,100,116,111],[118,97,108,117,101,115],[119,104,101,114,101]]
def eSs(l:List (List UInt8)):List (List D):=l.map λs=>[.str s]
theorem D01(l:List (List UInt8)):(eSs l).length=l.length:=by simp[eSs]
theorem D00{l:List (List UInt8)}{i:Nat}{s:List UInt8}(h:l[i]?=some s):(eSs l)[i]?=some [.str s]:=by simp[eSs,h]
theorem D02(l:List (List UInt8)):∀e∈eSs l,e.length=1:=by
 intro e he
 obtain⟨x,_,rfl⟩:=F2.1 he
 rfl
theorem C1M(s:List UInt8):Pure Tryz.prog B5q [.d (.str s)] (.d (.bool (decide (s∈A1w)))):=by
 refine C3l.go A6 rfl ?_
 obtain⟨b,hb⟩:∃b,b=decide (s∈A1w):=⟨_,rfl⟩
 rw[<- hb]
 repeat' first|refine st ?_|(with_reducible first|apply A5|apply A4)<;>intro _
 all_goals first
  |(subst_vars;rfl)
  |(rw[hb,decide_eq_false];simp[A1w, *])
theorem C1e:Pure Tryz.prog B4E [] (.d (.sl (eSs A1w))):=by
 refine C2i.go A6 rfl ?_
 repeat' first|refine st ?_|(with_reducible first|apply A5|apply A4)<;>intro _
 all_goals rfl
theorem C1i(l:List (List UInt8))(hl:l.length<=1048576)(d:D)(hd:B5 d (eSs l))(s:List UInt8):Pure Tryz.prog B4J [.d d,.d (.str s)] (.d (.bool (decide (s∈l)))):=by
 refine C2n.go A6 rfl ?_
 have h1:=D01 l
 have hm:=D02 l
 obtain⟨b,hb⟩:∃b,b=decide (s∈l):=⟨_,rfl⟩
 rw[<- hb]
 repeat' first|refine st ?_|(with_reducible first|apply A5|apply A4)<;>intro _
 refine F3 A6 C5g C4a (λ(i:Nat)=>[.d (eI i)]) (λi=>[]) (λi=>i<=l.length/\¬s∈l.take i) (λi=>l.length-i) 0 rfl rfl rfl rfl (λ_ _=>⟨rfl,rfl⟩) rfl ⟨by omega,by simp⟩ ?_
 repeat' first|refine st ?_|(with_reducible first|apply A5|apply A4)<;>intro _
 intro i ⟨h2,h3⟩
 cases hx:l[i]? with
 |some x=>
  have hlt:=(B2.1 hx).1
  have hg:=D00 hx
  by_cases h:x=s
  ·rw[hb,decide_eq_true (h▸C2 hx)]
   repeat' first|refine st ?_|(with_reducible first|apply A5|apply A4)<;>intro _
   all_goals rfl
  ·repeat' first|refine st ?_|(with_reducible first|apply A5|apply A4)<;>intro _
   refine⟨i+1,rfl,rfl,rfl,by omega,by omega,?_⟩
   rw[P5,hx]
   intro hmem
   rcases P0.1 hmem with hm2|hm2
   ·exact h3 hm2
   ·simp at hm2;exact h hm2.symm
 |none=>
  have hge:=D1.1 hx
  rw[L0 hge] at h3
  rw[hb,decide_eq_false h3]
  repeat' first|refine st ?_|(with_reducible first|apply A5|apply A4)<;>intro _
  all_goals rfl
def l6(p:UInt8×Nat):Bool:=decide (97<=p.1.toNat/\p.1.toNat<=122)||decide (p.1.toNat=95)||(decide (48<=p.1.toNat/\p.1.toNat<=57)&&decide (p.2≠0))
def okS(s:List UInt8):Bool:=s.zipIdx.all l6
def L2(s:List UInt8):Bool:=okS s&&decide (1<=s.length/\s.length<=24)&&!decide (s∈A1w)
theorem A89{s:List UInt8}{i:Nat}{c:UInt8}(h:s[i]?=some c):s.zipIdx[i]?=some (c,i):=by
 rw[List.getElem?_zipIdx,h];simp
theorem C9G{s:List UInt8}{p:Nat}{c:UInt8}(h:s[p]?=some c)(hc:c.toNat<128):Utf8.decode ⟨⟨s⟩⟩ p=(c.toNat,1):=by
 have e:(ByteArray.mk ⟨s⟩).get! (p+0)=c:=by
  obtain⟨hlt,he⟩:=B2.1 h
  show(⟨s⟩:Array UInt8)[p]! = c
  rw[getElem!_pos (⟨s⟩:Array UInt8) p hlt]
  exact he
 unfold Utf8.decode
 simp only[e]
 rw[if_pos hc]
theorem C9F{s:List UInt8}{p:Nat}{c:UInt8}(h:s[p]?=some c)(hc:¬c.toNat<128):128<=(Utf8.decode ⟨⟨s⟩⟩ p).1/\(Utf8.decode ⟨⟨s⟩⟩ p).1<=1114111:=by
 have e:(ByteArray.mk ⟨s⟩).get! (p+0)=c:=by
  obtain⟨hlt,he⟩:=B2.1 h
  show(⟨s⟩:Array UInt8)[p]! = c
  rw[getElem!_pos (⟨s⟩:Array UInt8) p hlt]
  exact he
 unfold Utf8.decode
 simp only[e]
 rw[if_neg hc]
 have hv:∀n:Nat,Utf8.valid n=true->n<=1114111:=λn h=>by
  simp only[Utf8.valid,A2G,O9,decide_eq_true_eq] at h
  omega
 repeat' split
 all_goals simp only[Utf8.runeError]
 all_goals first|omega|(rename_i h1;simp only[O9,decide_eq_true_eq] at h1;exact⟨by omega,hv _ h1.2⟩)|skip
end Go.Proofs
end
section
namespace Go.Proofs
open Go.Bi
attribute [local irreducible] Go.Utf8.decode
theorem A2t(c:UInt8)(p:Nat):l6 (c,p)=true↔(97<=c.toNat/\c.toNat<=122)\/c.toNat=95\/(48<=c.toNat/\c.toNat<=57/\p≠0):=by
 simp only[l6,A2G,O9,decide_eq_true_eq]
 omega
theorem A5V{s:List UInt8}{p:Nat}{c:UInt8}(h:s[p]?=some c)(hk:l6 (c,p)=false):L2 s=false:=by
 have:okS s=false:=A3A (A89 h) hk
 rw[L2,this];rfl
theorem A4w(s:List UInt8)(hs:s.length<=1048576):Pure Tryz.prog B5m [.d (.str s)] (.d (.bool (L2 s))):=by
 refine C3d.go A6 rfl ?_
 have hR:=C1M s
 obtain⟨b,hb⟩:∃b,b=L2 s:=⟨_,rfl⟩
 rw[<- hb]
 obtain⟨r,hr⟩:∃r,r=decide (s∈A1w):=⟨_,rfl⟩
 rw[<- hr] at hR
 repeat' first|refine st ?_|(with_reducible first|apply A5|apply A4)<;>intro _
 refine F3 A6 C5R C4L (λ(p:Nat)=>[]) (λp=>[.iter s p]) (λp=>p<=s.length/\(s.zipIdx.take p).all l6=true) (λp=>s.length-p) 0 rfl rfl rfl rfl (λ_ _=>⟨rfl,rfl⟩) rfl ⟨by omega,by simp⟩ ?_
 repeat' first|refine st ?_|(with_reducible first|apply A5|apply A4)<;>intro _
 intro p ⟨h1,h2⟩
 cases hx:s[p]? with
 |some c=>
  have hlt:=(B2.1 hx).1
  have hz:=A89 hx
  by_cases hc:c.toNat<128
  ·have e:=C9G hx hc
   have e1:(Utf8.decode ⟨⟨s⟩⟩ p).1=c.toNat:=by rw[e]
   have e2:(Utf8.decode ⟨⟨s⟩⟩ p).2=1:=by rw[e]
   cases hk:l6 (c,p) with
   |true=>
    have hs2:=A2Q (f:=l6) hz
    rw[h2,hk] at hs2
    have hk2:=(A2t c p).1 hk
    have hfin:∀q,q=p+(Utf8.decode ⟨⟨s⟩⟩ p).2->q<=s.length/\(s.zipIdx.take q).all l6=true/\s.length-q<s.length-p:=λq hq=>by
     rw[e2] at hq
     subst hq
     exact⟨by omega,hs2,by omega⟩
    clear hs2 hz e hk
    rcases hk2 with ⟨k1,k2⟩|k1|⟨k1,k2,k3⟩
    ·repeat' first|refine st ?_|(with_reducible first|apply A5|apply A4)<;>intro _
     obtain⟨f1,f2,f3⟩:=hfin _ rfl
     exact⟨_,rfl,rfl,rfl,f3,f1,f2⟩
    ·repeat' first|refine st ?_|(with_reducible first|apply A5|apply A4)<;>intro _
     obtain⟨f1,f2,f3⟩:=hfin _ rfl
     exact⟨_,rfl,rfl,rfl,f3,f1,f2⟩
    ·repeat' first|refine st ?_|(with_reducible first|apply A5|apply A4)<;>intro _
     obtain⟨f1,f2,f3⟩:=hfin _ rfl
     exact⟨_,rfl,rfl,rfl,f3,f1,f2⟩
   |false=>
    have hbf:b=false:=hb.trans (A5V hx hk)
    have hk2:¬_:=λh=>Bool.false_ne_true (hk▸(A2t c p).2 h)
    rw[hbf]
    clear hz e hk
    repeat' first|refine st ?_|(with_reducible first|apply A5|apply A4)<;>intro _
    all_goals first|rfl|(exfalso;omega)
  ·have e:=C9F hx hc
   have hk:l6 (c,p)=false:=by
    rw[Bool.eq_false_iff]
    intro h
    have:=(A2t c p).1 h
    omega
   have hbf:b=false:=hb.trans (A5V hx hk)
   rw[hbf]
   repeat' first|refine st ?_|(with_reducible first|apply A5|apply A4)<;>intro _
   all_goals first|rfl|(exfalso;omega)
 |none=>
  have hge:=D1.1 hx
  rw[L0 (by simpa using hge)] at h2
  have hb2:b=(decide (1<=s.length/\s.length<=24)&&!r):=by rw[hb,L2,okS,h2,hr];simp
  clear hb hr
  by_cases h:1<=s.length/\s.length<=24
  ·rw[decide_eq_true h] at hb2
   obtain⟨g1,g2⟩:=h
   rw[hb2]
   repeat' first|refine st ?_|((with_reducible first|apply A8|apply A7);(·exact hR))|(with_reducible first|apply A5|apply A4)<;>intro _
   all_goals first|rfl|(exfalso;omega)
  ·rw[decide_eq_false h] at hb2
   rw[hb2]
   repeat' first|refine st ?_|((with_reducible first|apply A8|apply A7);(·exact hR))|(with_reducible first|apply A5|apply A4)<;>intro _
   all_goals first|rfl|(exfalso;omega)
theorem A4u(s:List UInt8)(hs:s.length<=1048576):Pure Tryz.prog A8G [.d (.str s)] (.d (.bool (L2 s))):=by
 refine C2h.go A6 rfl ?_
 have hR:=C1i A1w (by decide) (.sl (eSs A1w)) L4 s
 have hW:=C1e
 obtain⟨ew,hew⟩:∃ew,ew=eSs A1w:=⟨_,rfl⟩
 rw[<- hew] at hR hW
 obtain⟨b,hb⟩:∃b,b=L2 s:=⟨_,rfl⟩
 rw[<- hb]
 obtain⟨r,hr⟩:∃r,r=decide (s∈A1w):=⟨_,rfl⟩
 rw[<- hr] at hR
 by_cases hlen:1<=s.length/\s.length<=24
 rotate_left
 ·have hbf:b=false:=by rw[hb,L2,decide_eq_false hlen];simp
  rw[hbf]
  by_cases h0:s=[]
  ·subst h0
   repeat' first|refine st ?_|(with_reducible first|apply A5|apply A4)<;>intro _
   all_goals rfl
  ·have h1:¬s.length=0:=λh=>h0 (A28.1 h)
   have h24:24<s.length:=by omega
   repeat' first|refine st ?_|(with_reducible first|apply A5|apply A4)<;>intro _
   all_goals rfl
 obtain⟨g1,g2⟩:=hlen
 have g0:¬s=[]:=λh=>by subst h;simp at g1
 obtain⟨c0,hc0⟩:∃c,s[0]?=some c:=⟨_,C9 (by omega)⟩
 have hg0:s.getD (0:Int).toNat 0=c0:=by simp[G9,hc0]
 by_cases hd:48<=c0.toNat/\c0.toNat<=57
 ·have hk:l6 (c0,0)=false:=by
   rw[Bool.eq_false_iff]
   intro h
   have:=(A2t c0 0).1 h
   omega
  have hbf:b=false:=hb.trans (A5V hc0 hk)
  rw[hbf]
  rw[<- hg0] at hd
  obtain⟨d1,d2⟩:=hd
  repeat' first|refine st ?_|(with_reducible first|apply A5|apply A4)<;>intro _
  all_goals first|rfl|(exfalso;omega)
 rcases(show c0.toNat<48\/57<c0.toNat by omega) with hd'|hd'
 all_goals rw[<- hg0] at hd'
 ·repeat' first|refine st ?_|(with_reducible first|apply A5|apply A4)<;>intro _
  refine F3 A6 B4g B41 (λ(p:Nat)=>[.d (eI p)]) (λp=>[]) (λp=>p<=s.length/\(s.zipIdx.take p).all l6=true) (λp=>s.length-p) 0 rfl rfl rfl rfl (λ_ _=>⟨rfl,rfl⟩) rfl ⟨by omega,by simp⟩ ?_
  repeat' first|refine st ?_|(with_reducible first|apply A5|apply A4)<;>intro _
  intro p ⟨h1,h2⟩
  cases hx:s[p]? with
  |some c=>
   have hlt:=(B2.1 hx).1
   have hg:s.getD ((p:Nat):Int).toNat 0=c:=by simp[G9,hx]
   have hz:=A89 hx
   have h0:p=0->c=c0:=λh=>by
    subst h
    rw[hx] at hc0
    exact Option.some.inj hc0
   have h0:p=0->c.toNat=c0.toNat:=λh=>by rw[h0 h]
   cases hk:l6 (c,p) with
   |true=>
    have hs2:=A2Q (f:=l6) hz
    rw[h2,hk] at hs2
    have hk2:=(A2t c p).1 hk
    rw[<- hg] at hk2
    clear hz hk
    rcases hk2 with ⟨k1,k2⟩|k1|⟨k1,k2,k3⟩
    ·repeat' first|refine st ?_|(with_reducible first|apply A5|apply A4)<;>intro _
     exact⟨p+1,rfl,rfl,rfl,by omega,by omega,hs2⟩
    ·repeat' first|refine st ?_|(with_reducible first|apply A5|apply A4)<;>intro _
     exact⟨p+1,rfl,rfl,rfl,by omega,by omega,hs2⟩
    ·repeat' first|refine st ?_|(with_reducible first|apply A5|apply A4)<;>intro _
     exact⟨p+1,rfl,rfl,rfl,by omega,by omega,hs2⟩
   |false=>
    have hbf:b=false:=hb.trans (A5V hx hk)
    have hk2:¬_:=λh=>Bool.false_ne_true (hk▸(A2t c p).2 h)
    rw[hbf]
    rw[<- hg] at hk2 h0
    rw[<- hg0] at h0
    clear hz hk
    repeat' first|refine st ?_|(with_reducible first|apply A5|apply A4)<;>intro _
    all_goals first|rfl|(exfalso;omega)
  |none=>
   have hge:=D1.1 hx
   rw[L0 (by simpa using hge)] at h2
   have hb2:b=!r:=by rw[hb,L2,okS,h2,hr,decide_eq_true (show 1<=s.length/\s.length<=24 from⟨g1,g2⟩)];simp
   rw[hb2]
   repeat' first|refine st ?_|((with_reducible first|apply A8|apply A7);(·first|exact hW|exact hR))|(with_reducible first|apply A5|apply A4)<;>intro _
   all_goals first|rfl|(exfalso;omega)
 ·repeat' first|refine st ?_|(with_reducible first|apply A5|apply A4)<;>intro _
  refine F3 A6 B4g B41 (λ(p:Nat)=>[.d (eI p)]) (λp=>[]) (λp=>p<=s.length/\(s.zipIdx.take p).all l6=true) (λp=>s.length-p) 0 rfl rfl rfl rfl (λ_ _=>⟨rfl,rfl⟩) rfl ⟨by omega,by simp⟩ ?_
  repeat' first|refine st ?_|(with_reducible first|apply A5|apply A4)<;>intro _
  intro p ⟨h1,h2⟩
  cases hx:s[p]? with
  |some c=>
   have hlt:=(B2.1 hx).1
   have hg:s.getD ((p:Nat):Int).toNat 0=c:=by simp[G9,hx]
   have hz:=A89 hx
   have h0:p=0->c=c0:=λh=>by
    subst h
    rw[hx] at hc0
    exact Option.some.inj hc0
   have h0:p=0->c.toNat=c0.toNat:=λh=>by rw[h0 h]
   cases hk:l6 (c,p) with
   |true=>
    have hs2:=A2Q (f:=l6) hz
    rw[h2,hk] at hs2
    have hk2:=(A2t c p).1 hk
    rw[<- hg] at hk2
    clear hz hk
    rcases hk2 with ⟨k1,k2⟩|k1|⟨k1,k2,k3⟩
    ·repeat' first|refine st ?_|(with_reducible first|apply A5|apply A4)<;>intro _
     exact⟨p+1,rfl,rfl,rfl,by omega,by omega,hs2⟩
    ·repeat' first|refine st ?_|(with_reducible first|apply A5|apply A4)<;>intro _
     exact⟨p+1,rfl,rfl,rfl,by omega,by omega,hs2⟩
    ·repeat' first|refine st ?_|(with_reducible first|apply A5|apply A4)<;>intro _
     exact⟨p+1,rfl,rfl,rfl,by omega,by omega,hs2⟩
   |false=>
    have hbf:b=false:=hb.trans (A5V hx hk)
    have hk2:¬_:=λh=>Bool.false_ne_true (hk▸(A2t c p).2 h)
    rw[hbf]
    rw[<- hg] at hk2 h0
    rw[<- hg0] at h0
    clear hz hk
    repeat' first|refine st ?_|(with_reducible first|apply A5|apply A4)<;>intro _
    all_goals first|rfl|(exfalso;omega)
  |none=>
   have hge:=D1.1 hx
   rw[L0 (by simpa using hge)] at h2
   have hb2:b=!r:=by rw[hb,L2,okS,h2,hr,decide_eq_true (show 1<=s.length/\s.length<=24 from⟨g1,g2⟩)];simp
   rw[hb2]
   repeat' first|refine st ?_|((with_reducible first|apply A8|apply A7);(·first|exact hW|exact hR))|(with_reducible first|apply A5|apply A4)<;>intro _
   all_goals first|rfl|(exfalso;omega)
end Go.Proofs
end
section
namespace Go.Proofs
open Go.Bi
theorem B0D{v w:Vl}:v=w↔(v.k=w.k/\v.n=w.n/\v.s=w.s):=by cases v;cases w;simp
def vAt(l:List Vl)(i:Int):Vl:=if i<0\/(l.length:Int)<=i then U6 else l.getD i.toNat U6
structure Co where
 nm:List UInt8
 k:Int
 nl:Bool
abbrev Co.ds(c:Co):List D:=[.str c.nm,eI c.k,.bool c.nl]
def B3(l:List Co):List (List D):=l.map Co.ds
theorem G5(l:List Co):(B3 l).length=l.length:=by simp[B3]
theorem L5{l:List Co}{i:Nat}{c:Co}(h:l[i]?=some c):(B3 l)[i]?=some c.ds:=by simp[B3,h]
theorem I1(l:List Co):∀e∈B3 l,e.length=3:=by
 intro e he
 obtain⟨x,_,rfl⟩:=F2.1 he
 rfl
abbrev eT(n:List UInt8)(dc dk df dx:D):AV:=.agg [.d (.str n),.d dc,.d dk,.d df,.d dx]
def kd(l:List Co):List Int:=l.map Co.k
theorem A5E(l:List Co):(kd l).length=l.length:=by simp[kd]
def Kt(l:List Co)(i:Nat):List (List D):=A0 (kd (l.take i))
theorem B3P(l:List Co)(i:Nat)(h:i<=l.length):(Kt l i).length=i:=by
 unfold Kt
 rw[B6,A5E,N6]
 omega
theorem B3Q{l:List Co}{i:Nat}{c:Co}(h:l[i]?=some c):Kt l i++[[eI c.k]]=Kt l (i+1):=by
 unfold Kt kd
 rw[P5,h]
 simp[A0]
theorem B3O{l:List Co}{i:Nat}(h:l.length<=i):Kt l i=A0 (kd l):=by
 unfold Kt
 rw[L0 h]
def kdD(l:List Co):D:=if (A0 (kd l)).isEmpty then .nil else .sl (A0 (kd l))
theorem D1b(l:List Co):B5 (kdD l) (A0 (kd l)):=by
 unfold kdD
 split
 ·rename_i h;exact .inl ⟨rfl,by simpa using h⟩
 ·exact .inr rfl
theorem C1F(n:List UInt8)(l:List Co)(hl:l.length<=1048576)(dc dk df dx:D)(hc:B5 dc (B3 l)):Pure Tryz.prog B5l [eT n dc dk df dx] (.d (kdD l)):=by
 refine C3c.go A6 rfl ?_
 have h1:=G5 l
 have hm:=I1 l
 repeat' first|refine st ?_|(with_reducible first|apply A5|apply A4)<;>intro _
 refine s0 3 1 rfl rfl ?_
 repeat' first|refine st ?_|(with_reducible first|apply A5|apply A4)<;>intro _
 refine I8 A6 C5Q C4K (λ(i:Nat) (w:List (List D)×Bool)=>[.arr 1 w.1.length,.d (eI i)]) (λi w=>[.cells [.d (.str n),.d dc,.d dk,.d df,.d dx],.arr w.1 1 0 w.2]) (λi w=>i<=l.length/\w.1=Kt l i/\w.2=w.1.isEmpty) (λi _=>l.length-i) 0 ([],true) rfl rfl rfl rfl (λ_ _ _=>⟨rfl,rfl⟩) rfl ⟨by omega,rfl,rfl⟩ ?_
 repeat' first|refine st ?_|(with_reducible first|apply A5|apply A4)<;>intro _
 intro i w ⟨h4,h5,h6⟩
 obtain⟨A,b⟩:=w
 dsimp only at h5 h6 ⊢
 have hAl:A.length=i:=by rw[h5];exact B3P l i (by omega)
 have hAm:∀e∈A,e.length=1:=by rw[h5];exact D2 _
 cases hx:l[i]? with
 |some x=>
  have hlt:=(B2.1 hx).1
  have hs:=B3Q hx
  have hg:=L5 hx
  rw[<- h5] at hs
  repeat' first|refine st ?_|(with_reducible first|apply A5|apply A4)<;>intro _
  exact⟨i+1,(A++[[eI x.k]],false),rfl,rfl,rfl,by omega,by omega,hs,by simp⟩
 |none=>
  have hge:=D1.1 hx
  rw[B3O hge] at h5
  unfold kdD
  rw[<- h5,<- h6]
  cases b with
  |true=>
   repeat' first|refine st ?_|(with_reducible first|apply A5|apply A4)<;>intro _
   all_goals rfl
  |false=>
   repeat' first|refine st ?_|(with_reducible first|apply A5|apply A4)<;>intro _
   all_goals rfl
theorem C1c(n:List UInt8)(l:List Co)(hl:l.length<=1048576)(dc dk df dx:D)(hc:B5 dc (B3 l)):Pure Tryz.prog B4D [eT n dc dk df dx] (.d (.sl (A0 (kd l)))):=by
 refine C2g.go A6 rfl ?_
 have h1:=G5 l
 have hm:=I1 l
 repeat' first|refine st ?_|(with_reducible first|apply A5|apply A4)<;>intro _
 refine I8 A6 C5a C44 (λ(i:Nat) (A:List (List D))=>[.arr 1 A.length,.d (eI i)]) (λi A=>[.cells [.d (.str n),.d dc,.d dk,.d df,.d dx],.arr A 1 0 false]) (λi A=>i<=l.length/\A=Kt l i) (λi _=>l.length-i) 0 [] rfl rfl rfl rfl (λ_ _ _=>⟨rfl,rfl⟩) rfl ⟨by omega,rfl⟩ ?_
 repeat' first|refine st ?_|(with_reducible first|apply A5|apply A4)<;>intro _
 intro i A ⟨h4,h5⟩
 have hAl:A.length=i:=by rw[h5];exact B3P l i (by omega)
 have hAm:∀e∈A,e.length=1:=by rw[h5];exact D2 _
 cases hx:l[i]? with
 |some x=>
  have hlt:=(B2.1 hx).1
  have hs:=B3Q hx
  have hg:=L5 hx
  rw[<- h5] at hs
  repeat' first|refine st ?_|(with_reducible first|apply A5|apply A4)<;>intro _
  exact⟨i+1,A++[[eI x.k]],rfl,rfl,rfl,by omega,by omega,hs⟩
 |none=>
  have hge:=D1.1 hx
  rw[B3O hge] at h5
  rw[<- h5]
  repeat' first|refine st ?_|(with_reducible first|apply A5|apply A4)<;>intro _
  all_goals rfl
def k9(nm:List UInt8):Nat->List Co->Int
 |_,[]=>-1
 |i,c::l=>if c.nm=nm then i else k9 nm (i+1) l
def E8(nm:List UInt8)(l:List Co):Int:=k9 nm 0 l
theorem B74{nm:List UInt8}{l:List Co}{i:Nat}{c:Co}(h:l[i]?=some c):k9 nm i (l.drop i)=if c.nm=nm then (i:Int) else k9 nm (i+1) (l.drop (i+1)):=by
 obtain⟨hlt,he⟩:=B2.1 h
 rw[V5 hlt,he];rfl
theorem A4t(n:List UInt8)(l:List Co)(hl:l.length<=1048576)(dc dk df dx:D)(hc:B5 dc (B3 l))(nm:List UInt8):Pure Tryz.prog A4W [eT n dc dk df dx,.d (.str nm)] (.d (eI (E8 nm l))):=by
 refine C2f.go A6 rfl ?_
 have h1:=G5 l
 have hm:=I1 l
 repeat' first|refine st ?_|(with_reducible first|apply A5|apply A4)<;>intro _
 refine F3 A6 C59 C43 (λ(i:Nat)=>[.d (eI i)]) (λi=>[.cells [.d (.str n),.d dc,.d dk,.d df,.d dx]]) (λi=>i<=l.length/\E8 nm l=k9 nm i (l.drop i)) (λi=>l.length-i) 0 rfl rfl rfl rfl (λ_ _=>⟨rfl,rfl⟩) rfl ⟨by omega,rfl⟩ ?_
 repeat' first|refine st ?_|(with_reducible first|apply A5|apply A4)<;>intro _
 intro i ⟨h4,h5⟩
 cases hx:l[i]? with
 |some x=>
  have hlt:=(B2.1 hx).1
  have hg:=L5 hx
  rw[B74 hx] at h5
  by_cases h:x.nm=nm
  ·rw[if_pos h] at h5
   rw[h5]
   repeat' first|refine st ?_|(with_reducible first|apply A5|apply A4)<;>intro _
   all_goals rfl
  ·rw[if_neg h] at h5
   repeat' first|refine st ?_|(with_reducible first|apply A5|apply A4)<;>intro _
   exact⟨i+1,rfl,rfl,rfl,by omega,by omega,h5⟩
 |none=>
  have hge:=D1.1 hx
  rw[R1 hge] at h5
  rw[h5]
  repeat' first|refine st ?_|(with_reducible first|apply A5|apply A4)<;>intro _
  all_goals rfl
theorem C1E(c:Co)(nm:List UInt8):B4 Tryz.prog A6W [.agg [.d (.str c.nm),.d (eI c.k),.d (.bool c.nl)],.ptr 0 0] [.cells [.d (.str nm)]] (λr os=>r=.d (.bool (decide (c.nm=nm)))/\os=[.cells [.d (.str nm)]]):=by
 refine C3b.goX A6 rfl ?_
 repeat' first|refine st ?_|(with_reducible first|apply A5|apply A4)<;>intro _
 all_goals exact⟨rfl,rfl⟩
theorem C0X(l:List Co)(hl:l.length<=1048576)(dc:D)(hc:B5 dc (B3 l))(nm:List UInt8):B4 Tryz.prog A92 [.d dc,.clo A6W [0]] [.cells [.d (.str nm)]] (λr os=>r=.d (eI (E8 nm l))/\os=[.cells [.d (.str nm)]]):=by
 refine C3o.goX A6 rfl ?_
 have h1:=G5 l
 have hm:=I1 l
 repeat' first|refine st ?_|(with_reducible first|apply A5|apply A4)<;>intro _
 refine F3 A6 C61 C4V (λ(i:Nat)=>[.d (eI i)]) (λi=>[.cells [.d (.str nm)]]) (λi=>i<=l.length/\E8 nm l=k9 nm i (l.drop i)) (λi=>l.length-i) 0 rfl rfl rfl rfl (λ_ _=>⟨rfl,rfl⟩) rfl ⟨by omega,rfl⟩ ?_
 repeat' first|refine st ?_|(with_reducible first|apply A5|apply A4)<;>intro _
 intro i ⟨h4,h5⟩
 cases hx:l[i]? with
 |some x=>
  have hlt:=(B2.1 hx).1
  have hg:=L5 hx
  have hC:=C1E x nm
  rw[B74 hx] at h5
  by_cases h:x.nm=nm
  ·rw[if_pos h] at h5
   rw[h5]
   rw[decide_eq_true h] at hC
   repeat' first|refine st ?_|((with_reducible first|apply I7|apply D8);(·exact hC);(try rintro _ _ ⟨rfl,rfl⟩))|((with_reducible apply J4);(·exact hC))|((with_reducible apply I5);refine st ?_;(with_reducible apply J2);(·exact rfl);refine st ?_;(with_reducible apply D8);(·exact hC);(try rintro _ _ ⟨rfl,rfl⟩))|(with_reducible first|apply A5|apply A4)<;>intro _
   all_goals exact⟨rfl,rfl⟩
  ·rw[if_neg h] at h5
   rw[decide_eq_false h] at hC
   repeat' first|refine st ?_|((with_reducible first|apply I7|apply D8);(·exact hC);(try rintro _ _ ⟨rfl,rfl⟩))|((with_reducible apply J4);(·exact hC))|((with_reducible apply I5);refine st ?_;(with_reducible apply J2);(·exact rfl);refine st ?_;(with_reducible apply D8);(·exact hC);(try rintro _ _ ⟨rfl,rfl⟩))|(with_reducible first|apply A5|apply A4)<;>intro _
   exact⟨i+1,rfl,rfl,rfl,by omega,by omega,h5⟩
 |none=>
  have hge:=D1.1 hx
  rw[R1 hge] at h5
  rw[h5]
  repeat' first|refine st ?_|(with_reducible first|apply A5|apply A4)<;>intro _
  all_goals exact⟨rfl,rfl⟩
theorem T8(n:List UInt8)(l:List Co)(hl:l.length<=1048576)(dc dk df dx:D)(hc:B5 dc (B3 l))(nm:List UInt8):Pure Tryz.prog U8 [eT n dc dk df dx,.d (.str nm)] (.d (eI (E8 nm l))):=by
 refine C3a.go A6 rfl ?_
 have hF:B4 Tryz.prog A92 [.d dc,.clo A6W [1]] [.cells [.d (.str n),.d dc,.d dk,.d df,.d dx],.cells [.d (.str nm)]] (λr os=>r=.d (eI (E8 nm l))/\os=[.cells [.d (.str n),.d dc,.d dk,.d df,.d dx],.cells [.d (.str nm)]]):=
  B4.frame (C0X l hl dc hc nm) [1] [.cells [.d (.str n),.d dc,.d dk,.d df,.d dx],.cells [.d (.str nm)]] rfl (by decide)
   (λi o h=>by
    match i,h with
    |0,h=>cases h;rfl
    |i+1,h=>simp at h)
   (λa ha=>by simp at ha;rcases ha with rfl|rfl<;>simp[AV.bnd2,AV.bnd1])
   (λo ho=>by simp at ho;subst ho;simp[AO.bnd,AV.bnd1])
   (λr bs' h=>by obtain⟨rfl,rfl⟩:=h;exact⟨rfl,rfl⟩)
 repeat' first|refine st ?_|((with_reducible first|apply I7|apply D8);(·exact hF);(try rintro _ _ ⟨rfl,rfl⟩))|((with_reducible apply J4);(·exact hF))|((with_reducible apply I5);refine st ?_;(with_reducible apply J2);(·exact rfl);refine st ?_;(with_reducible apply D8);(·exact hF);(try rintro _ _ ⟨rfl,rfl⟩))|(with_reducible first|apply A5|apply A4)<;>intro _
 all_goals rfl
def c9(l:List Co):Option Int->List Int->Int
 |_,[]=>0
 |p,k::ks=>if 0<=k/\k<l.length then (match p with
  |some q=>if k<=q then 25 else if (l.getD k.toNat ⟨[],0,false⟩).nl then 12 else c9 l (some k) ks
  |none=>if (l.getD k.toNat ⟨[],0,false⟩).nl then 12 else c9 l (some k) ks) else 25
def A0l(l:List Co)(ks:List Int):Int:=if ks.length=0 then 25 else c9 l none ks
def o8(ks:List Int)(i:Nat):Option Int:=if i=0 then none else ks[i-1]?
theorem B7N{l:List Co}{ks:List Int}{i:Nat}{k:Int}(h:ks[i]?=some k):c9 l (o8 ks i) (ks.drop i)=if 0<=k/\k<l.length then (match o8 ks i with
  |some q=>if k<=q then 25 else if (l.getD k.toNat ⟨[],0,false⟩).nl then 12 else c9 l (o8 ks (i+1)) (ks.drop (i+1))
  |none=>if (l.getD k.toNat ⟨[],0,false⟩).nl then 12 else c9 l (o8 ks (i+1)) (ks.drop (i+1))) else 25:=by
 obtain⟨hlt,he⟩:=B2.1 h
 have hp:o8 ks (i+1)=some k:=by rw[o8,if_neg (by omega)];exact h
 rw[V5 hlt,he,hp]
 cases o8 ks i<;>rfl
theorem B1d(n:List UInt8)(l:List Co)(hl:l.length<=1048576)(dc dk df dx:D)(hc:B5 dc (B3 l))(k:Int):Pure Tryz.prog B5o [eT n dc dk df dx,.d (eI k)] (.d (.bool (decide (0<=k/\k<l.length)))):=by
 refine C3j.go A6 rfl ?_
 have h1:=G5 l
 repeat' first|refine st ?_|(with_reducible first|apply A5|apply A4)<;>intro _
 all_goals (simp_all<;>(intros;omega))
theorem B13(n:List UInt8)(l:List Co)(hl:l.length<=1048576)(dc dk df dx:D)(hc:B5 dc (B3 l))(k:Int):Pure Tryz.prog B4H [eT n dc dk df dx,.d (eI k)] (.d (.bool (decide (0<=k/\k<l.length)))):=by
 refine C2l.go A6 rfl ?_
 have h1:=G5 l
 repeat' first|refine st ?_|(with_reducible first|apply A5|apply A4)<;>intro _
 all_goals (simp_all<;>(intros;omega))
theorem C1K(n:List UInt8)(l:List Co)(hl:l.length<=1048576)(dc dk df dx:D)(hc:B5 dc (B3 l))(ks:List Int)(hk:ks.length<=1048576)(hdk:B5 dk (A0 ks)):Pure Tryz.prog A70 [eT n dc dk df dx] (.d (eI (A0l l ks))):=by
 refine C3i.go A6 rfl ?_
 have h1:=G5 l
 have hm:=I1 l
 have h2:=B6 ks
 have hm2:=D2 ks
 unfold A0l
 by_cases h0:ks.length=0
 ·rw[if_pos h0]
  repeat' first|refine st ?_|(with_reducible first|apply A5|apply A4)<;>intro _
  all_goals first|rfl|(exfalso;omega)
 rw[if_neg h0]
 obtain⟨q,hq⟩:∃q,q=c9 l none ks:=⟨_,rfl⟩
 rw[<- hq]
 repeat' first|refine st ?_|(with_reducible first|apply A5|apply A4)<;>intro _
 refine F3 A6 C5W C4Q (λ(i:Nat)=>[.d (eI i)]) (λi=>[.cells [.d (.str n),.d dc,.d dk,.d df,.d dx]]) (λi=>i<=ks.length/\q=c9 l (o8 ks i) (ks.drop i)) (λi=>ks.length-i) 0 rfl rfl rfl rfl (λ_ _=>⟨rfl,rfl⟩) rfl ⟨by omega,hq⟩ ?_
 repeat' first|refine st ?_|(with_reducible first|apply A5|apply A4)<;>intro _
 intro i ⟨h4,h5⟩
 cases hx:ks[i]? with
 |some k=>
  have hlt:=(B2.1 hx).1
  have hg:=J9 hx
  have hH:=B1d n l hl dc dk df dx hc k
  rw[B7N hx] at h5
  by_cases hin:0<=k/\k<l.length
  rotate_left
  ·rw[if_neg hin] at h5
   rw[decide_eq_false hin] at hH
   rw[h5]
   repeat' first|refine st ?_|((with_reducible first|apply A8|apply A7);(·exact hH))|(with_reducible first|apply A5|apply A4)<;>intro _
   all_goals rfl
  rw[if_pos hin] at h5
  rw[decide_eq_true hin] at hH
  obtain⟨i1,i2⟩:=hin
  obtain⟨c,hcx⟩:∃c,l[k.toNat]?=some c:=⟨_,C9 (by omega)⟩
  have hgc:=L5 hcx
  have hb2:k<(B3 l).length:=by omega
  rw[show l.getD k.toNat ⟨[],0,false⟩=c by rw[G9,hcx];rfl] at h5
  obtain⟨cn,ck,cl⟩:=c
  dsimp only at h5 hgc
  by_cases hi:i=0
  ·subst hi
   rw[show o8 ks 0=none from rfl] at h5
   dsimp only at h5
   cases cl with
   |true=>
    rw[if_pos rfl] at h5
    rw[h5]
    repeat' first|refine st ?_|((with_reducible first|apply A8|apply A7);(·exact hH))|(with_reducible first|apply A5|apply A4)<;>intro _
    all_goals rfl
   |false=>
    rw[if_neg (by simp)] at h5
    repeat' first|refine st ?_|((with_reducible first|apply A8|apply A7);(·exact hH))|(with_reducible first|apply A5|apply A4)<;>intro _
    exact⟨1,rfl,rfl,rfl,by omega,by omega,h5⟩
  ·obtain⟨k',hk'⟩:∃k',ks[i-1]?=some k':=⟨_,C9 (by omega)⟩
   have hg':(A0 ks)[((i:Int)-1).toNat]?=some [eI k']:=by
    rw[show((i:Int)-1).toNat=i-1 by omega]
    exact J9 hk'
   have hw:(0:Int)<i:=by omega
   rw[show o8 ks i=some k' by rw[o8,if_neg hi,hk']] at h5
   dsimp only at h5
   by_cases hle:k<=k'
   ·rw[if_pos hle] at h5
    rw[h5]
    repeat' first|refine st ?_|((with_reducible first|apply A8|apply A7);(·exact hH))|(with_reducible first|apply A5|apply A4)<;>intro _
    all_goals rfl
   ·rw[if_neg hle] at h5
    cases cl with
    |true=>
     rw[if_pos rfl] at h5
     rw[h5]
     repeat' first|refine st ?_|((with_reducible first|apply A8|apply A7);(·exact hH))|(with_reducible first|apply A5|apply A4)<;>intro _
     all_goals rfl
    |false=>
     rw[if_neg (by simp)] at h5
     repeat' first|refine st ?_|((with_reducible first|apply A8|apply A7);(·exact hH))|(with_reducible first|apply A5|apply A4)<;>intro _
     exact⟨i+1,rfl,rfl,rfl,by omega,by omega,h5⟩
 |none=>
  have hge:=D1.1 hx
  rw[R1 hge] at h5
  rw[h5]
  repeat' first|refine st ?_|(with_reducible first|apply A5|apply A4)<;>intro _
  all_goals first|rfl|(unfold c9;rfl)
theorem C1j(n:List UInt8)(l:List Co)(hl:l.length<=1048576)(dc dk df dx:D)(hc:B5 dc (B3 l))(ks:List Int)(hk:ks.length<=1048576)(hdk:B5 dk (A0 ks)):Pure Tryz.prog B4K [eT n dc dk df dx] (.d (eI (A0l l ks))):=by
 refine C2o.go A6 rfl ?_
 have h1:=G5 l
 have hm:=I1 l
 have h2:=B6 ks
 have hm2:=D2 ks
 unfold A0l
 by_cases h0:ks.length=0
 ·rw[if_pos h0]
  repeat' first|refine st ?_|(with_reducible first|apply A5|apply A4)<;>intro _
  all_goals first|rfl|(exfalso;omega)
 rw[if_neg h0]
 obtain⟨q,hq⟩:∃q,q=c9 l none ks:=⟨_,rfl⟩
 rw[<- hq]
 repeat' first|refine st ?_|(with_reducible first|apply A5|apply A4)<;>intro _
 refine F3 A6 C5h C4b (λ(i:Nat)=>[.d (eI i)]) (λi=>[.cells [.d (.str n),.d dc,.d dk,.d df,.d dx]]) (λi=>i<=ks.length/\q=c9 l (o8 ks i) (ks.drop i)) (λi=>ks.length-i) 0 rfl rfl rfl rfl (λ_ _=>⟨rfl,rfl⟩) rfl ⟨by omega,hq⟩ ?_
 repeat' first|refine st ?_|(with_reducible first|apply A5|apply A4)<;>intro _
 intro i ⟨h4,h5⟩
 cases hx:ks[i]? with
 |some k=>
  have hlt:=(B2.1 hx).1
  have hg:=J9 hx
  have hH:=B13 n l hl dc dk df dx hc k
  rw[B7N hx] at h5
  by_cases hin:0<=k/\k<l.length
  rotate_left
  ·rw[if_neg hin] at h5
   rw[decide_eq_false hin] at hH
   rw[h5]
   repeat' first|refine st ?_|((with_reducible first|apply A8|apply A7);(·exact hH))|(with_reducible first|apply A5|apply A4)<;>intro _
   all_goals rfl
  rw[if_pos hin] at h5
  rw[decide_eq_true hin] at hH
  obtain⟨i1,i2⟩:=hin
  obtain⟨c,hcx⟩:∃c,l[k.toNat]?=some c:=⟨_,C9 (by omega)⟩
  have hgc:=L5 hcx
  have hb2:k<(B3 l).length:=by omega
  rw[show l.getD k.toNat ⟨[],0,false⟩=c by rw[G9,hcx];rfl] at h5
  obtain⟨cn,ck,cl⟩:=c
  dsimp only at h5 hgc
  by_cases hi:i=0
  ·subst hi
   rw[show o8 ks 0=none from rfl] at h5
   dsimp only at h5
   cases cl with
   |true=>
    rw[if_pos rfl] at h5
    rw[h5]
    repeat' first|refine st ?_|((with_reducible first|apply A8|apply A7);(·exact hH))|(with_reducible first|apply A5|apply A4)<;>intro _
    all_goals rfl
   |false=>
    rw[if_neg (by simp)] at h5
    repeat' first|refine st ?_|((with_reducible first|apply A8|apply A7);(·exact hH))|(with_reducible first|apply A5|apply A4)<;>intro _
    exact⟨1,rfl,rfl,rfl,by omega,by omega,h5⟩
  ·obtain⟨k',hk'⟩:∃k',ks[i-1]?=some k':=⟨_,C9 (by omega)⟩
   have hg':(A0 ks)[((i:Int)-1).toNat]?=some [eI k']:=by
    rw[show((i:Int)-1).toNat=i-1 by omega]
    exact J9 hk'
   have hw:(0:Int)<i:=by omega
   rw[show o8 ks i=some k' by rw[o8,if_neg hi,hk']] at h5
   dsimp only at h5
   by_cases hle:k<=k'
   ·rw[if_pos hle] at h5
    rw[h5]
    repeat' first|refine st ?_|((with_reducible first|apply A8|apply A7);(·exact hH))|(with_reducible first|apply A5|apply A4)<;>intro _
    all_goals rfl
   ·rw[if_neg hle] at h5
    cases cl with
    |true=>
     rw[if_pos rfl] at h5
     rw[h5]
     repeat' first|refine st ?_|((with_reducible first|apply A8|apply A7);(·exact hH))|(with_reducible first|apply A5|apply A4)<;>intro _
     all_goals rfl
    |false=>
     rw[if_neg (by simp)] at h5
     repeat' first|refine st ?_|((with_reducible first|apply A8|apply A7);(·exact hH))|(with_reducible first|apply A5|apply A4)<;>intro _
     exact⟨i+1,rfl,rfl,rfl,by omega,by omega,h5⟩
 |none=>
  have hge:=D1.1 hx
  rw[R1 hge] at h5
  rw[h5]
  repeat' first|refine st ?_|(with_reducible first|apply A5|apply A4)<;>intro _
  all_goals first|rfl|(unfold c9;rfl)
def m7(seen:List (List UInt8)):List Co->Int
 |[]=>0
 |c::r=>if L2 c.nm then (if 1<=c.k/\c.k<=3 then (if c.nm∈seen then 10 else m7 (seen++[c.nm]) r) else 7) else 1
def u4(l:List Co):Int:=if 1<=l.length/\l.length<=12 then m7 [] l else 13
def X4(l:List Co)(i:Nat):List (List UInt8):=(l.take i).map Co.nm
theorem B8i{l:List Co}{i:Nat}{c:Co}(h:l[i]?=some c):X4 l i++[c.nm]=X4 l (i+1):=by
 unfold X4
 rw[P5,h]
 simp
theorem B6t{l:List Co}{i:Nat}{c:Co}(h:l[i]?=some c):m7 (X4 l i) (l.drop i)=if L2 c.nm then (if 1<=c.k/\c.k<=3 then (if c.nm∈X4 l i then 10 else m7 (X4 l (i+1)) (l.drop (i+1))) else 7) else 1:=by
 obtain⟨hlt,he⟩:=B2.1 h
 rw[V5 hlt,he,<- B8i h,m7]
def X1(ns:List (List UInt8)):List (D×AV):=ns.map λs=>(.str s,.d (eI 1))
theorem A2Y(a b:List UInt8):Y6 .s (.str a) (.str b)=some (decide (a=b)):=by
 unfold Y6
 rw[A11,A08]
 simp
theorem B06(s:List UInt8)(kvs:List (D×AV))(h:∀p∈kvs,∃t,p.1=.str t):l5 .s (.str s) kvs:=by
 refine⟨λp hp=>?_,by rw[A2Y];simp⟩
 obtain⟨t,ht⟩:=h p hp
 rw[ht,A2Y];simp
theorem B07(ns:List (List UInt8)):∀p∈X1 ns,∃t,p.1=.str t:=by
 intro p hp
 obtain⟨s,_,rfl⟩:=F2.1 hp
 exact⟨s,rfl⟩
theorem B02{s:List UInt8}:∀{ns:List (List UInt8)},s∈ns->J6 .s (.str s) (X1 ns)=some (.d (eI 1))
 |[],h=>by cases h
 |t::ns,h=>by
  unfold X1
  rw[Q4,J6,A2Y]
  by_cases e:s=t
  ·rw[if_pos (by rw[decide_eq_true e])]
  ·rw[if_neg (by simp[e])]
   exact B02 (by rcases I9.1 h with h|h;exact absurd h e;exact h)
theorem B85{s:List UInt8}:∀{ns:List (List UInt8)},¬s∈ns->J6 .s (.str s) (X1 ns)=none
 |[],h=>rfl
 |t::ns,h=>by
  unfold X1
  rw[Q4,J6,A2Y]
  rw[if_neg (by simp;intro e;exact h (by simp[e]))]
  exact B85 λh'=>h (by simp[h'])
theorem B88{s:List UInt8}{v:AV}:∀{ns:List (List UInt8)},¬s∈ns->K8 .s (.str s) v (X1 ns)=X1 ns++[(.str s,v)]
 |[],h=>rfl
 |t::ns,h=>by
  unfold X1
  rw[Q4,K8,A2Y]
  rw[if_neg (by simp;intro e;exact h (by simp[e]))]
  have e:K8 .s (.str s) v (X1 ns)=X1 ns++[(.str s,v)]:=B88 (λh':s∈ns=>h (J3 _ h'))
  unfold X1 at e
  rw[e];rfl
theorem B8a{s:List UInt8}{v:AV}:∀{kvs:List (D×AV)},(∀p∈kvs,∃t,p.1=.str t)->∀p∈K8 .s (.str s) v kvs,∃t,p.1=.str t
 |[],h,p,hp=>by simp[K8] at hp;subst hp;exact⟨s,rfl⟩
 |q::kvs,h,p,hp=>by
  unfold K8 at hp
  split at hp
  ·rcases I9.1 hp with rfl|hp
   ·exact⟨s,rfl⟩
   ·exact h p (by simp[hp])
  ·rcases I9.1 hp with rfl|hp
   ·exact h _ (by simp)
   ·exact B8a (λp hp=>h p (by simp[hp])) p hp
theorem B83{s:List UInt8}{v:AV}:∀{kvs:List (D×AV)},J6 .s (.str s) (K8 .s (.str s) v kvs)=some v
 |[]=>by simp[K8,J6,A2Y]
 |q::kvs=>by
  unfold K8
  split
  ·simp[J6,A2Y]
  ·rename_i h
   rw[J6,if_neg h]
   exact B83
theorem B75{nm:List UInt8}:∀{l:List Co}{i j:Nat}{c:Co},l[j]?=some c->c.nm=nm->k9 nm i l=(i+j:Nat)/\¬nm∈(l.take j).map Co.nm\/(i:Int)<=k9 nm i l/\k9 nm i l<(i+j:Nat)/\nm∈(l.take j).map Co.nm
 |[],i,j,c,h,_=>by simp at h
 |d::l,i,0,c,h,e=>by
  simp only[A1C,A11] at h
  subst h
  left
  unfold k9
  rw[if_pos e]
  exact⟨by simp,by simp⟩
 |d::l,i,j+1,c,h,e=>by
  rw[A0W] at h
  unfold k9
  by_cases hd:d.nm=nm
  ·right
   rw[if_pos hd]
   exact⟨Int.le_refl _,by omega,by simp[hd]⟩
  ·rw[if_neg hd]
   rcases B75 (i:=i+1) h e with ⟨h1,h2⟩|⟨h1,h2,h3⟩
   ·left
    refine⟨by omega,?_⟩
    simp only[List.take_succ_cons,Q4,I9,not_or]
    exact⟨λh=>hd h.symm,h2⟩
   ·right
    refine⟨by omega,by omega,?_⟩
    simp only[List.take_succ_cons,Q4,I9]
    exact .inr h3
theorem C1f(n:List UInt8)(l:List Co)(hl:l.length<=1048576)(hls:∀c∈l,c.nm.length<=1048576)(dc dk df dx:D)(hc:B5 dc (B3 l)):Pure Tryz.prog B4F [eT n dc dk df dx] (.d (eI (u4 l))):=by
 refine C2j.go A6 rfl ?_
 have h1:=G5 l
 have hm:=I1 l
 unfold u4
 by_cases h0:1<=l.length/\l.length<=12
 rotate_left
 ·rw[if_neg h0]
  repeat' first|refine st ?_|(with_reducible first|apply A5|apply A4)<;>intro _
  all_goals first|rfl|(exfalso;omega)
 rw[if_pos h0]
 obtain⟨g1,g2⟩:=h0
 obtain⟨q,hq⟩:∃q,q=m7 [] l:=⟨_,rfl⟩
 rw[<- hq]
 repeat' first|refine st ?_|(with_reducible first|apply A5|apply A4)<;>intro _
 refine F3 A6 C5b C45 (λ(i:Nat)=>[.d (eI i)]) (λi=>[.cells [.d (.str n),.d dc,.d dk,.d df,.d dx]]) (λi=>i<=l.length/\q=m7 (X4 l i) (l.drop i)) (λi=>l.length-i) 0 rfl rfl rfl rfl (λ_ _=>⟨rfl,rfl⟩) rfl ⟨by omega,hq⟩ ?_
 repeat' first|refine st ?_|(with_reducible first|apply A5|apply A4)<;>intro _
 intro i ⟨h4,h5⟩
 cases hx:l[i]? with
 |some x=>
  have hlt:=(B2.1 hx).1
  have hg:=L5 hx
  have hN:=A4u x.nm (hls x (C2 hx))
  have hF:=A4t n l hl dc dk df dx hc x.nm
  have hff:=B75 (i:=0) hx rfl
  rw[B6t hx] at h5
  cases hv:L2 x.nm with
  |false=>
   rw[hv,if_neg (by simp)] at h5
   rw[hv] at hN
   rw[h5]
   repeat' first|refine st ?_|((with_reducible first|apply A8|apply A7);(·exact hN))|(with_reducible first|apply A5|apply A4)<;>intro _
   all_goals rfl
  |true=>
   rw[hv,if_pos rfl] at h5
   rw[hv] at hN
   by_cases hk:1<=x.k/\x.k<=3
   rotate_left
   ·rw[if_neg hk] at h5
    rw[h5]
    repeat' first|refine st ?_|((with_reducible first|apply A8|apply A7);(·exact hN))|(with_reducible first|apply A5|apply A4)<;>intro _
    all_goals first|rfl|(exfalso;omega)
   rw[if_pos hk] at h5
   obtain⟨k1,k2⟩:=hk
   by_cases hin:x.nm∈X4 l i
   ·rw[if_pos hin] at h5
    have hlti:E8 x.nm l<i:=by
     rcases hff with ⟨_,h⟩|⟨_,h,_⟩
     ·exact absurd hin h
     ·rw[E8];omega
    rw[h5]
    repeat' first|refine st ?_|((with_reducible first|apply A8|apply A7);(·first|exact hN|exact hF))|(with_reducible first|apply A5|apply A4)<;>intro _
    all_goals rfl
   ·rw[if_neg hin] at h5
    have hge:¬E8 x.nm l<i:=by
     rcases hff with ⟨h,_⟩|⟨_,_,h⟩
     ·rw[E8];omega
     ·exact absurd h hin
    repeat' first|refine st ?_|((with_reducible first|apply A8|apply A7);(·first|exact hN|exact hF))|(with_reducible first|apply A5|apply A4)<;>intro _
    exact⟨i+1,rfl,rfl,rfl,by omega,by omega,h5⟩
 |none=>
  have hge:=D1.1 hx
  rw[R1 hge] at h5
  rw[h5]
  repeat' first|refine st ?_|(with_reducible first|apply A5|apply A4)<;>intro _
  all_goals rfl
theorem C1L(k:Int):Pure Tryz.prog B5p [.d (eI k)] (.d (.bool (decide (1<=k/\k<=3)))):=by
 refine C3k.go A6 rfl ?_
 repeat' first|refine st ?_|(with_reducible first|apply A5|apply A4)<;>intro _
 all_goals (simp_all<;>(intros;omega))
theorem D1k(ns:List (List UInt8))(s:List UInt8):X1 ns++[(.str s,.d (eI 1))]=X1 (ns++[s]):=by simp[X1]
theorem C1I(n:List UInt8)(l:List Co)(hl:l.length<=1048576)(hls:∀c∈l,c.nm.length<=1048576)(dc dk df dx:D)(hc:B5 dc (B3 l)):Pure Tryz.prog A6Y [eT n dc dk df dx] (.d (eI (u4 l))):=by
 refine C3g.go A6 rfl ?_
 have h1:=G5 l
 have hm:=I1 l
 unfold u4
 by_cases h0:1<=l.length/\l.length<=12
 rotate_left
 ·rw[if_neg h0]
  repeat' first|refine st ?_|(with_reducible first|apply A5|apply A4)<;>intro _
  all_goals first|rfl|(exfalso;omega)
 rw[if_pos h0]
 obtain⟨g1,g2⟩:=h0
 obtain⟨q,hq⟩:∃q,q=m7 [] l:=⟨_,rfl⟩
 rw[<- hq]
 repeat' first|refine st ?_|(with_reducible first|apply A5|apply A4)<;>intro _
 refine F3 A6 C5T C4N (λ(i:Nat)=>[.d (eI i)]) (λi=>[.cells [.d (.str n),.d dc,.d dk,.d df,.d dx],.map (X1 (X4 l i))]) (λi=>i<=l.length/\q=m7 (X4 l i) (l.drop i)) (λi=>l.length-i) 0 rfl rfl rfl rfl (λ_ _=>⟨rfl,(by simp[m6,AO.bndB,X1,AV.bnd2B,AV.bnd1B])⟩) rfl ⟨by omega,hq⟩ ?_
 repeat' first|refine st ?_|(with_reducible first|apply A5|apply A4)<;>intro _
 intro i ⟨h4,h5⟩
 cases hx:l[i]? with
 |some x=>
  have hlt:=(B2.1 hx).1
  have hg:=L5 hx
  have hN:=A4w x.nm (hls x (C2 hx))
  have hK:=C1L x.k
  have hs:=B8i hx
  rw[B6t hx] at h5
  obtain⟨kvs,hkv⟩:∃kvs,kvs=X1 (X4 l i):=⟨_,rfl⟩
  have m1:l5 .s (.str x.nm) kvs:=by rw[hkv];exact B06 _ _ (B07 _)
  by_cases hin:x.nm∈X4 l i
  ·rw[if_pos hin] at h5
   have e1:lkR false (zv false [.int .i64 0]) (J6 .s (.str x.nm) kvs)=.d (eI 1):=by rw[hkv,B02 hin];rfl
   obtain⟨kv2,e2⟩:∃kv2,K8 .s (.str x.nm) (.d (eI 2)) kvs=kv2:=⟨_,rfl⟩
   have m2:l5 .s (.str x.nm) kv2:=by rw[<- e2,hkv];exact B06 _ _ (B8a (B07 _))
   have e3:lkR false (zv false [.int .i64 0]) (J6 .s (.str x.nm) kv2)=.d (eI 2):=by rw[<- e2,B83];rfl
   rw[<- hkv]
   cases hv:L2 x.nm with
   |false=>
    rw[hv,if_neg (by simp)] at h5
    rw[hv] at hN
    rw[h5]
    repeat' first|refine st ?_|((with_reducible first|apply A8|apply A7);(·exact hN))|(with_reducible first|apply A5|apply A4)<;>intro _
    all_goals rfl
   |true=>
    rw[hv,if_pos rfl] at h5
    rw[hv] at hN
    by_cases hk:1<=x.k/\x.k<=3
    ·rw[if_pos hk] at h5
     rw[decide_eq_true hk] at hK
     rw[h5]
     repeat' first|refine st ?_|((with_reducible first|apply A8|apply A7);(·first|exact hN|exact hK))|(with_reducible first|apply A5|apply A4)<;>intro _
     all_goals rfl
    ·rw[if_neg hk] at h5
     rw[decide_eq_false hk] at hK
     rw[h5]
     repeat' first|refine st ?_|((with_reducible first|apply A8|apply A7);(·first|exact hN|exact hK))|(with_reducible first|apply A5|apply A4)<;>intro _
     all_goals rfl
  ·rw[if_neg hin] at h5
   have e1:lkR false (zv false [.int .i64 0]) (J6 .s (.str x.nm) kvs)=.d (eI 0):=by rw[hkv,B85 hin];rfl
   have e2:K8 .s (.str x.nm) (.d (eI 1)) kvs=X1 (X4 l (i+1)):=by rw[hkv,B88 hin,D1k,hs]
   have m2:l5 .s (.str x.nm) (X1 (X4 l (i+1))):=B06 _ _ (B07 _)
   have e3:lkR false (zv false [.int .i64 0]) (J6 .s (.str x.nm) (X1 (X4 l (i+1))))=.d (eI 1):=by rw[B02 (by rw[<- hs];simp)];rfl
   rw[<- hkv]
   cases hv:L2 x.nm with
   |false=>
    rw[hv,if_neg (by simp)] at h5
    rw[hv] at hN
    rw[h5]
    repeat' first|refine st ?_|((with_reducible first|apply A8|apply A7);(·exact hN))|(with_reducible first|apply A5|apply A4)<;>intro _
    all_goals rfl
   |true=>
    rw[hv,if_pos rfl] at h5
    rw[hv] at hN
    by_cases hk:1<=x.k/\x.k<=3
    ·rw[if_pos hk] at h5
     rw[decide_eq_true hk] at hK
     repeat' first|refine st ?_|((with_reducible first|apply A8|apply A7);(·first|exact hN|exact hK))|(with_reducible first|apply A5|apply A4)<;>intro _
     exact⟨i+1,rfl,rfl,rfl,by omega,by omega,h5⟩
    ·rw[if_neg hk] at h5
     rw[decide_eq_false hk] at hK
     rw[h5]
     repeat' first|refine st ?_|((with_reducible first|apply A8|apply A7);(·first|exact hN|exact hK))|(with_reducible first|apply A5|apply A4)<;>intro _
     all_goals rfl
 |none=>
  have hge:=D1.1 hx
  rw[R1 hge] at h5
  rw[h5]
  repeat' first|refine st ?_|(with_reducible first|apply A5|apply A4)<;>intro _
  all_goals rfl
end Go.Proofs
end
section
namespace Go.Proofs
open Go.Bi
inductive Ex where
 |mk (op n:Int) (v:Vl) (name:List UInt8) (nl:Bool) (args:List Ex)
theorem Ex.ind{p:Ex->Prop}(h:∀op n v name nl args,(∀a∈args,p a)->p (.mk op n v name nl args)):∀e,p e
 |.mk op n v name nl args=>h _ _ _ _ _ _ λa ha=>Ex.ind h a
termination_by e=>SizeOf.sizeOf e
decreasing_by
 have:=List.sizeOf_lt_of_mem ha
 simp only[Ex.mk.sizeOf_spec]
 omega
def ng(nl:Bool)(l:List (List D)):D:=if nl&&l.isEmpty then .nil else .sl l
theorem i5{nl:Bool}{l:List (List D)}:B5 (ng nl l) l:=by
 unfold ng
 split
 ·rename_i h
  simp only[O9,w8] at h
  exact .inl ⟨rfl,h.2⟩
 ·exact .inr rfl
abbrev V2(op n:Int)(v:Vl)(name:List UInt8)(d:D):List D:=[eI op,eI n,eI v.k,eI v.n,.str v.s,.str name,d]
abbrev eX(op n:Int)(v:Vl)(name:List UInt8)(d:D):AV:=.agg [.d (eI op),.d (eI n),.d (eI v.k),.d (eI v.n),.d (.str v.s),.d (.str name),.d d]
mutual
def Ex.ds:Ex->List D
 |.mk op n v name nl args=>V2 op n v name (ng nl (Ex.dss args))
def Ex.dss:List Ex->List (List D)
 |[]=>[]
 |e::es=>e.ds::Ex.dss es
end
theorem Ex.dss_eq:∀l,Ex.dss l=l.map Ex.ds
 |[]=>by simp[Ex.dss]
 |e::es=>by simp[Ex.dss,Ex.dss_eq es]
def xL(l:List Ex):List (List D):=l.map Ex.ds
theorem Ex.ds_mk(op n:Int)(v:Vl)(name:List UInt8)(nl:Bool)(args:List Ex):(Ex.mk op n v name nl args).ds=V2 op n v name (ng nl (xL args)):=by
 rw[Ex.ds,Ex.dss_eq];rfl
def Ex.av(e:Ex):AV:=.agg (e.ds.map .d)
theorem Ex.av_mk(op n:Int)(v:Vl)(name:List UInt8)(nl:Bool)(args:List Ex):(Ex.mk op n v name nl args).av=eX op n v name (ng nl (xL args)):=by
 rw[Ex.av,Ex.ds_mk];rfl
theorem I3(l:List Ex):(xL l).length=l.length:=by simp[xL]
theorem N5(l:List Ex):∀e∈xL l,e.length=7:=by
 intro e he
 obtain⟨⟨op,n,v,name,nl,args⟩,_,rfl⟩:=F2.1 he
 rw[Ex.ds_mk];rfl
theorem m4{l:List Ex}{i:Nat}{e:Ex}(h:l[i]?=some e):(xL l)[i]?=some e.ds:=by simp[xL,h]
def Ex.bk(e:Ex):Nat:=E7 e.ds
theorem A2f{l:List (List D)}{x:List D}(h:x∈l):E7 x<=G6 l:=by
 induction l with
 |nil=>cases h
 |cons y l ih=>
  simp only[G6]
  rcases I9.1 h with rfl|h
  ·omega
  ·have:=ih h;omega
theorem A59{l:List (List D)}(h:∀x∈l,1<=E7 x):l.length<=G6 l:=by
 induction l with
 |nil=>exact S9 _
 |cons y l ih=>
  have h1:=h y (by simp)
  have h2:=ih λx hx=>h x (by simp[hx])
  simp only[G6,N9]
  omega
theorem Ex.bk_mk(op n:Int)(v:Vl)(name:List UInt8)(nl:Bool)(args:List Ex):G6 (xL args)+v.s.length+name.length+6<=(Ex.mk op n v name nl args).bk:=by
 rw[Ex.bk,Ex.ds_mk]
 simp only[E7,U0]
 unfold ng
 split
 ·rename_i h
  simp only[O9,w8] at h
  rw[h.2]
  simp only[U0,G6]
  omega
 ·simp only[U0];omega
theorem Ex.bk_pos(e:Ex):6<=e.bk:=by
 obtain⟨op,n,v,name,nl,args⟩:=e
 have:=Ex.bk_mk op n v name nl args
 omega
theorem B9P(l:List Ex):l.length<=G6 (xL l):=by
 rw[<- I3 l]
 refine A59 λx hx=>?_
 obtain⟨e,_,rfl⟩:=F2.1 hx
 have:=e.bk_pos
 unfold Ex.bk at this
 omega
theorem Ex.bk_arg{op n:Int}{v:Vl}{name:List UInt8}{nl:Bool}{args:List Ex}{a:Ex}(h:a∈args):a.bk<(Ex.mk op n v name nl args).bk:=by
 have h1:=Ex.bk_mk op n v name nl args
 have h2:E7 a.ds<=G6 (xL args):=A2f (F2.2 ⟨a,h,rfl⟩)
 unfold Ex.bk at *
 omega
theorem Ex.bk_bounds{op n:Int}{v:Vl}{name:List UInt8}{nl:Bool}{args:List Ex}{B:Nat}(h:(Ex.mk op n v name nl args).bk<=B):args.length<=B/\v.s.length<=B/\name.length<=B/\∀a∈args,a.bk<=B:=by
 have h1:=Ex.bk_mk op n v name nl args
 have h2:=B9P args
 exact⟨by omega,by omega,by omega,λa ha=>by have:=Ex.bk_arg (op:=op) (n:=n) (v:=v) (name:=name) (nl:=nl) ha;omega⟩
end Go.Proofs
end
section
namespace Go.Proofs
open Go.Bi
structure Fo where
 nl:Bool
 cs:List Int
 tb:List UInt8
def Fo.d(f:Fo):D:=ng f.nl (A0 f.cs)
abbrev Fo.ds(f:Fo):List D:=[f.d,.str f.tb]
theorem Fo.sld(f:Fo):B5 f.d (A0 f.cs):=i5
def F8(l:List Fo):List (List D):=l.map Fo.ds
theorem c8(l:List Fo):(F8 l).length=l.length:=by simp[F8]
theorem A0i{l:List Fo}{i:Nat}{f:Fo}(h:l[i]?=some f):(F8 l)[i]?=some f.ds:=by simp[F8,h]
theorem y7(l:List Fo):∀e∈F8 l,e.length=2:=by
 intro e he
 obtain⟨x,_,rfl⟩:=F2.1 he
 rfl
def m9(n:Nat)(seen:List Int):List Int->Int
 |[]=>0
 |c::r=>if (0<=c/\c<n)/\¬c∈seen then m9 n (seen++[c]) r else 25
def A0j(n:Nat)(f:Fo):Int:=if L2 f.tb then (if f.cs.length=0 then 25 else m9 n [] f.cs) else 1
theorem B6T{n:Nat}{l:List Int}{i:Nat}{c:Int}(h:l[i]?=some c):m9 n (l.take i) (l.drop i)=if (0<=c/\c<n)/\¬c∈l.take i then m9 n (l.take (i+1)) (l.drop (i+1)) else 25:=by
 obtain⟨hlt,he⟩:=B2.1 h
 rw[V5 hlt,he,m9,P5,h]
 rfl
end Go.Proofs
end
section
namespace Go.Proofs
open Go.Bi
theorem C1h(n:List UInt8)(l:List Co)(hl:l.length<=1048576)(dc dk df dx:D)(hc:B5 dc (B3 l))(f:Fo)(hf:f.cs.length<=1048576)(hft:f.tb.length<=1048576):Pure Tryz.prog B4I [eT n dc dk df dx,.agg [.d f.d,.d (.str f.tb)]] (.d (eI (A0j l.length f))):=by
 refine C2m.go A6 rfl ?_
 have h1:=B6 f.cs
 have hm:=D2 f.cs
 have hsd:=f.sld
 have hN:=A4u f.tb hft
 obtain⟨nl,cs,tb⟩:=f
 obtain⟨fd,hfd⟩:∃fd,fd=Fo.d ⟨nl,cs,tb⟩:=⟨_,rfl⟩
 rw[<- hfd] at hsd ⊢
 dsimp only at h1 hm hsd hN hf ⊢
 unfold A0j
 dsimp only
 cases hv:L2 tb with
 |false=>
  rw[hv] at hN
  rw[if_neg (by simp)]
  repeat' first|refine st ?_|((with_reducible first|apply A8|apply A7);(·exact hN))|(with_reducible first|apply A5|apply A4)<;>intro _
  all_goals rfl
 |true=>
 rw[hv] at hN
 rw[if_pos rfl]
 by_cases h0:cs.length=0
 ·rw[if_pos h0]
  repeat' first|refine st ?_|((with_reducible first|apply A8|apply A7);(·exact hN))|(with_reducible first|apply A5|apply A4)<;>intro _
  all_goals first|rfl|(exfalso;omega)
 rw[if_neg h0]
 obtain⟨q,hq⟩:∃q,q=m9 l.length [] cs:=⟨_,rfl⟩
 rw[<- hq]
 repeat' first|refine st ?_|((with_reducible first|apply A8|apply A7);(·exact hN))|(with_reducible first|apply A5|apply A4)<;>intro _
 refine F3 A6 C5f C49 (λ(i:Nat)=>[.d (eI i)]) (λi=>[.cells [.d (.str n),.d dc,.d dk,.d df,.d dx],.cells [.d fd,.d (.str tb)]]) (λi=>i<=cs.length/\q=m9 l.length (cs.take i) (cs.drop i)) (λi=>cs.length-i) 0 rfl rfl rfl rfl (λ_ _=>⟨rfl,rfl⟩) rfl ⟨by omega,hq⟩ ?_
 repeat' first|refine st ?_|(with_reducible first|apply A5|apply A4)<;>intro _
 intro i ⟨h4,h5⟩
 cases hx:cs[i]? with
 |some c=>
  have hlt:=(B2.1 hx).1
  have hg:=J9 hx
  have hE:=B13 n l hl dc dk df dx hc c
  rw[B6T hx] at h5
  by_cases hin:0<=c/\c<l.length
  rotate_left
  ·rw[if_neg (λh=>hin h.1)] at h5
   rw[decide_eq_false hin] at hE
   rw[h5]
   repeat' first|refine st ?_|((with_reducible first|apply A8|apply A7);(·exact hE))|(with_reducible first|apply A5|apply A4)<;>intro _
   all_goals rfl
  rw[decide_eq_true hin] at hE
  repeat' first|refine st ?_|((with_reducible first|apply A8|apply A7);(·exact hE))|(with_reducible first|apply A5|apply A4)<;>intro _
  refine F3 A6 C5e C48 (λ(k:Nat)=>[.d (eI k)]) (λk=>[.cells [.d (.str n),.d dc,.d dk,.d df,.d dx],.cells [.d fd,.d (.str tb)]]) (λk=>k<=i/\¬c∈cs.take k) (λk=>i-k) 0 rfl rfl rfl rfl (λ_ _=>⟨rfl,rfl⟩) rfl ⟨by omega,by simp⟩ ?_
  repeat' first|refine st ?_|(with_reducible first|apply A5|apply A4)<;>intro _
  intro k ⟨h6,h7⟩
  by_cases hk:k<i
  ·obtain⟨c',hc'⟩:∃c',cs[k]?=some c':=⟨_,C9 (by omega)⟩
   have hg':=J9 hc'
   by_cases he:c'=c
   ·have hmem:c∈cs.take i:=by
     rw[<- he]
     exact C2 (i:=k) (by rw[List.getElem?_take_of_lt hk];exact hc')
    rw[if_neg (λh=>h.2 hmem)] at h5
    rw[h5]
    repeat' first|refine st ?_|(with_reducible first|apply A5|apply A4)<;>intro _
    all_goals rfl
   ·repeat' first|refine st ?_|(with_reducible first|apply A5|apply A4)<;>intro _
    refine⟨k+1,rfl,rfl,rfl,by omega,by omega,?_⟩
    rw[P5,hc']
    intro hmem
    rcases P0.1 hmem with h|h
    ·exact h7 h
    ·simp at h;exact he h.symm
  ·have:k=i:=by omega
   subst this
   rw[if_pos ⟨hin,h7⟩] at h5
   repeat' first|refine st ?_|(with_reducible first|apply A5|apply A4)<;>intro _
   exact⟨k+1,rfl,rfl,rfl,by omega,by omega,h5⟩
 |none=>
  have hge:=D1.1 hx
  rw[R1 hge] at h5
  rw[h5]
  repeat' first|refine st ?_|(with_reducible first|apply A5|apply A4)<;>intro _
  all_goals rfl
end Go.Proofs
end
section
namespace Go.Proofs
open Go.Bi
def X3(ns:List Int):List (D×AV):=ns.map λs=>(eI s,.d (eI 1))
theorem A0K(a b:Int):Y6 .i (eI a) (eI b)=some (decide (a=b)):=by
 show(if IntKind.i64=IntKind.i64 then some (a==b) else none)=_
 rw[if_pos rfl,A11,A08]
 simp
theorem A5S(s:Int)(kvs:List (D×AV))(h:∀p∈kvs,∃t,p.1=eI t):l5 .i (eI s) kvs:=by
 refine⟨λp hp=>?_,by rw[A0K];simp⟩
 obtain⟨t,ht⟩:=h p hp
 rw[ht,A0K];simp
theorem B08(ns:List Int):∀p∈X3 ns,∃t,p.1=eI t:=by
 intro p hp
 obtain⟨s,_,rfl⟩:=F2.1 hp
 exact⟨s,rfl⟩
theorem B03{s:Int}:∀{ns:List Int},s∈ns->J6 .i (eI s) (X3 ns)=some (.d (eI 1))
 |[],h=>by cases h
 |t::ns,h=>by
  unfold X3
  rw[Q4,J6,A0K]
  by_cases e:s=t
  ·rw[if_pos (by rw[decide_eq_true e])]
  ·rw[if_neg (by simp[e])]
   exact B03 (by rcases I9.1 h with h|h;exact absurd h e;exact h)
theorem B86{s:Int}:∀{ns:List Int},¬s∈ns->J6 .i (eI s) (X3 ns)=none
 |[],h=>rfl
 |t::ns,h=>by
  unfold X3
  rw[Q4,J6,A0K]
  rw[if_neg (by simp;intro e;exact h (by simp[e]))]
  exact B86 λh'=>h (by simp[h'])
theorem B89{s:Int}{v:AV}:∀{ns:List Int},¬s∈ns->K8 .i (eI s) v (X3 ns)=X3 ns++[(eI s,v)]
 |[],h=>rfl
 |t::ns,h=>by
  unfold X3
  rw[Q4,K8,A0K]
  rw[if_neg (by simp;intro e;exact h (by simp[e]))]
  have e:K8 .i (eI s) v (X3 ns)=X3 ns++[(eI s,v)]:=B89 (λh':s∈ns=>h (J3 _ h'))
  unfold X3 at e
  rw[e];rfl
theorem B8b{s:Int}{v:AV}:∀{kvs:List (D×AV)},(∀p∈kvs,∃t,p.1=eI t)->∀p∈K8 .i (eI s) v kvs,∃t,p.1=eI t
 |[],h,p,hp=>by simp[K8] at hp;subst hp;exact⟨s,rfl⟩
 |q::kvs,h,p,hp=>by
  unfold K8 at hp
  split at hp
  ·rcases I9.1 hp with rfl|hp
   ·exact⟨s,rfl⟩
   ·exact h p (by simp[hp])
  ·rcases I9.1 hp with rfl|hp
   ·exact h _ (by simp)
   ·exact B8b (λp hp=>h p (by simp[hp])) p hp
theorem B04{s:Int}{v:AV}:∀{kvs:List (D×AV)},J6 .i (eI s) (K8 .i (eI s) v kvs)=some v
 |[]=>by simp[K8,J6,A0K]
 |q::kvs=>by
  unfold K8
  split
  ·simp[J6,A0K]
  ·rename_i h
   rw[J6,if_neg h]
   exact B04
theorem D1i(ns:List Int)(s:Int):X3 ns++[(eI s,.d (eI 1))]=X3 (ns++[s]):=by simp[X3]
theorem D1j(ns:List Int)(m:Nat):(AO.map (X3 ns)).bndB m=true:=by
 refine O3.2 λp hp=>?_
 obtain⟨s,_,rfl⟩:=F2.1 hp
 rfl
def V7(n:Nat):List Fo->Int
 |[]=>0
 |f::r=>if A0j n f=0 then V7 n r else A0j n f
def A3S(n:Nat)(l:List Fo):Int:=if l.length<=4 then V7 n l else 5
theorem B7n{n:Nat}{l:List Fo}{i:Nat}{f:Fo}(h:l[i]?=some f):V7 n (l.drop i)=if A0j n f=0 then V7 n (l.drop (i+1)) else A0j n f:=by
 obtain⟨hlt,he⟩:=B2.1 h
 rw[V5 hlt,he];rfl
theorem C1J(n:List UInt8)(l:List Co)(hl:l.length<=1048576)(fs:List Fo)(hfl:fs.length<=1048576)(hfc:∀f∈fs,f.cs.length<=1048576/\f.tb.length<=1048576)(dc dk df dx:D)(hc:B5 dc (B3 l))(hdf:B5 df (F8 fs)):Pure Tryz.prog A6Z [eT n dc dk df dx] (.d (eI (A3S l.length fs))):=by
 refine C3h.go A6 rfl ?_
 have h1:=c8 fs
 have hm:=y7 fs
 unfold A3S
 by_cases h0:fs.length<=4
 rotate_left
 ·rw[if_neg h0]
  repeat' first|refine st ?_|(with_reducible first|apply A5|apply A4)<;>intro _
  all_goals first|rfl|(exfalso;omega)
 rw[if_pos h0]
 obtain⟨q,hq⟩:∃q,q=V7 l.length fs:=⟨_,rfl⟩
 rw[<- hq]
 repeat' first|refine st ?_|(with_reducible first|apply A5|apply A4)<;>intro _
 refine F3 A6 C5V C4P (λ(i:Nat)=>[.d (eI i)]) (λi=>[.cells [.d (.str n),.d dc,.d dk,.d df,.d dx]]) (λi=>i<=fs.length/\q=V7 l.length (fs.drop i)) (λi=>fs.length-i) 0 rfl rfl rfl rfl (λ_ _=>⟨rfl,rfl⟩) rfl ⟨by omega,hq⟩ ?_
 repeat' first|refine st ?_|(with_reducible first|apply A5|apply A4)<;>intro _
 intro i ⟨h4,h5⟩
 cases hx:fs[i]? with
 |some f=>
  have hlt:=(B2.1 hx).1
  have hg:=A0i hx
  obtain⟨hf,hft⟩:=hfc f (C2 hx)
  have hN:=A4w f.tb hft
  rw[B7n hx] at h5
  have k1:=B6 f.cs
  have k2:=D2 f.cs
  have hsd:=f.sld
  obtain⟨nl,cs,tb⟩:=f
  have hg:(F8 fs)[i]?=some [Fo.d ⟨nl,cs,tb⟩,.str tb]:=hg
  obtain⟨fd,hfd⟩:∃fd,fd=Fo.d ⟨nl,cs,tb⟩:=⟨_,rfl⟩
  rw[<- hfd] at hsd hg
  dsimp only at k1 k2 hsd hN hf
  obtain⟨e,he⟩:∃e,e=A0j l.length ⟨nl,cs,tb⟩:=⟨_,rfl⟩
  rw[<- he] at h5
  unfold A0j at he
  dsimp only at he
  cases hv:L2 tb with
  |false=>
   rw[hv] at hN
   rw[hv,if_neg (by simp)] at he
   rw[he,if_neg (by decide)] at h5
   rw[h5]
   repeat' first|refine st ?_|((with_reducible first|apply A8|apply A7);(·exact hN))|(with_reducible first|apply A5|apply A4)<;>intro _
   all_goals rfl
  |true=>
   rw[hv] at hN
   rw[hv,if_pos rfl] at he
   have hcF:e=0->¬cs.length=0/\m9 l.length [] cs=0:=λh=>by
    by_cases g:cs.length=0
    ·rw[if_pos g] at he;omega
    ·rw[if_neg g] at he;exact⟨g,by omega⟩
   have hcF2:m9 l.length [] cs=25->e=25:=λh=>by
    by_cases g:cs.length=0
    ·rw[if_pos g] at he;exact he
    ·rw[if_neg g] at he;omega
   repeat' first|refine st ?_|((with_reducible first|apply A8|apply A7);(·exact hN))|(with_reducible first|apply A5|apply A4)<;>intro _
   refine F3 A6 C5U C4O (λ(k:Nat)=>[.d (eI k)]) (λk=>[.cells [.d (.str n),.d dc,.d dk,.d df,.d dx],.cells [.d fd,.d (.str tb)],.map (X3 (cs.take k))]) (λk=>k<=cs.length/\m9 l.length [] cs=m9 l.length (cs.take k) (cs.drop k)) (λk=>cs.length-k) 0 rfl rfl rfl rfl (λ_ _=>⟨rfl,(by rw[m6,m6,m6,D1j];rfl)⟩) rfl ⟨by omega,rfl⟩ ?_
   repeat' first|refine st ?_|(with_reducible first|apply A5|apply A4)<;>intro _
   intro k ⟨h6,h7⟩
   cases hy:cs[k]? with
   |some c=>
    have hlt2:=(B2.1 hy).1
    have hg2:=J9 hy
    have hH:=B1d n l hl dc dk df dx hc c
    rw[B6T hy] at h7
    obtain⟨kvs,hkv⟩:∃kvs,kvs=X3 (cs.take k):=⟨_,rfl⟩
    have m1:l5 .i (eI c) kvs:=by rw[hkv];exact A5S _ _ (B08 _)
    have hts:cs.take k++[c]=cs.take (k+1):=by rw[P5,hy];rfl
    by_cases hin:c∈cs.take k
    ·rw[if_neg (λh=>h.2 hin)] at h7
     have e25:=hcF2 h7
     rw[e25,if_neg (by decide)] at h5
     have e1:lkR false (zv false [.int .i64 0]) (J6 .i (eI c) kvs)=.d (eI 1):=by rw[hkv,B03 hin];rfl
     obtain⟨kv2,e2⟩:∃kv2,K8 .i (eI c) (.d (eI 2)) kvs=kv2:=⟨_,rfl⟩
     have m2:l5 .i (eI c) kv2:=by rw[<- e2,hkv];exact A5S _ _ (B8b (B08 _))
     have e3:lkR false (zv false [.int .i64 0]) (J6 .i (eI c) kv2)=.d (eI 2):=by rw[<- e2,B04];rfl
     rw[<- hkv]
     rw[h5]
     by_cases hh:0<=c/\c<l.length
     ·rw[decide_eq_true hh] at hH
      repeat' first|refine st ?_|((with_reducible first|apply A8|apply A7);(·exact hH))|(with_reducible first|apply A5|apply A4)<;>intro _
      all_goals rfl
     ·rw[decide_eq_false hh] at hH
      repeat' first|refine st ?_|((with_reducible first|apply A8|apply A7);(·exact hH))|(with_reducible first|apply A5|apply A4)<;>intro _
      all_goals rfl
    ·have e1:lkR false (zv false [.int .i64 0]) (J6 .i (eI c) kvs)=.d (eI 0):=by rw[hkv,B86 hin];rfl
     have e2:K8 .i (eI c) (.d (eI 1)) kvs=X3 (cs.take (k+1)):=by rw[hkv,B89 hin,D1i,hts]
     have m2:l5 .i (eI c) (X3 (cs.take (k+1))):=A5S _ _ (B08 _)
     have e3:lkR false (zv false [.int .i64 0]) (J6 .i (eI c) (X3 (cs.take (k+1))))=.d (eI 1):=by rw[B03 (by rw[<- hts];simp)];rfl
     rw[<- hkv]
     by_cases hh:0<=c/\c<l.length
     ·rw[decide_eq_true hh] at hH
      rw[if_pos ⟨hh,hin⟩] at h7
      repeat' first|refine st ?_|((with_reducible first|apply A8|apply A7);(·exact hH))|(with_reducible first|apply A5|apply A4)<;>intro _
      exact⟨k+1,rfl,rfl,rfl,by omega,by omega,h7⟩
     ·rw[decide_eq_false hh] at hH
      rw[if_neg (λh=>hh h.1)] at h7
      have e25:=hcF2 h7
      rw[e25,if_neg (by decide)] at h5
      rw[h5]
      repeat' first|refine st ?_|((with_reducible first|apply A8|apply A7);(·exact hH))|(with_reducible first|apply A5|apply A4)<;>intro _
      all_goals rfl
   |none=>
    have hge2:=D1.1 hy
    rw[R1 hge2] at h7
    have h7:m9 l.length [] cs=0:=h7
    by_cases g:cs.length=0
    ·rw[if_pos g] at he
     rw[he,if_neg (by decide)] at h5
     rw[h5]
     repeat' first|refine st ?_|(with_reducible first|apply A5|apply A4)<;>intro _
     all_goals first|rfl|(exfalso;omega)
    ·rw[if_neg g,h7] at he
     rw[if_pos he] at h5
     repeat' first|refine st ?_|(with_reducible first|apply A5|apply A4)<;>intro _
     exact⟨i+1,rfl,rfl,rfl,by omega,by omega,h5⟩
 |none=>
  have hge:=D1.1 hx
  rw[R1 hge] at h5
  rw[h5]
  repeat' first|refine st ?_|(with_reducible first|apply A5|apply A4)<;>intro _
  all_goals rfl
end Go.Proofs
end
section
namespace Go.Proofs
open Go.Bi
def mx(l:List Nat):Nat:=l.foldl max 0
mutual
def L9:Ex->Nat
 |.mk op n v name nl args=>1+mx (A5o args)
def A5o:List Ex->List Nat
 |[]=>[]
 |e::es=>L9 e::A5o es
end
theorem B6E:∀l,A5o l=l.map L9
 |[]=>by simp[A5o]
 |e::es=>by simp[A5o,B6E es]
theorem A2i(op n:Int)(v:Vl)(name:List UInt8)(nl:Bool)(args:List Ex):L9 (.mk op n v name nl args)=1+mx (args.map L9):=by rw[L9,B6E]
theorem D1m{l:List Nat}{B:Nat}(h:∀x∈l,x<=B):mx l<=B:=by
 unfold mx
 have key:∀(l:List Nat) (a:Nat),a<=B->(∀x∈l,x<=B)->l.foldl max a<=B:=by
  intro l
  induction l with
  |nil=>intro a ha _;exact ha
  |cons x l ih=>intro a ha hl;exact ih (max a x) (by have:=hl x (by simp);omega) λy hy=>hl y (by simp[hy])
 exact key l 0 (S9 _) h
theorem C9I:∀e:Ex,L9 e<=e.bk:=by
 refine Ex.ind λop n v name nl args ih=>?_
 rw[A2i]
 have h1:mx (args.map L9)<=(Ex.mk op n v name nl args).bk-1:=D1m λx hx=>by
  obtain⟨a,ha,rfl⟩:=F2.1 hx
  have h2:=ih a ha
  have h3:=Ex.bk_arg (op:=op) (n:=n) (v:=v) (name:=name) (nl:=nl) ha
  omega
 have:=(Ex.mk op n v name nl args).bk_pos
 omega
theorem D0A{α β:Type}(f:β->α->β)(b:β)(l:List α)(i:Nat)(x:α)(h:l[i]?=some x):(l.take (i+1)).foldl f b=f ((l.take i).foldl f b) x:=by
 rw[P5,h];simp
theorem B8c{l:List Nat}{i x:Nat}(h:l[i]?=some x):mx (l.take (i+1))=max (mx (l.take i)) x:=D0A _ _ _ _ _ h
theorem C0U:∀e:Ex,e.bk<=1048576->∀m:Nat,1<=m->m<=25->Pure Tryz.prog A8Y [e.av,.d (eI m)] (.d (eI (min m (L9 e):Nat))):=by
 refine Ex.ind λop n v name nl args ih hbk m hm1 hm2=>?_
 obtain⟨b1,b2,b3,b4⟩:=Ex.bk_bounds hbk
 have ih':∀a∈args,∀m:Nat,1<=m->m<=25->Pure Tryz.prog A8Y [a.av,.d (eI m)] (.d (eI (min m (L9 a):Nat))):=λa ha=>ih a ha (b4 a ha)
 clear ih
 rw[Ex.av_mk,A2i]
 refine C34.go A6 rfl ?_
 have hlen:=I3 args
 have hm:=N5 args
 have hd:B5 (ng nl (xL args)) (xL args):=i5
 have hget:∀(i:Nat) (op' n':Int) (v':Vl) (name':List UInt8) (nl':Bool) (args':List Ex),args[i]?=some (.mk op' n' v' name' nl' args')->(xL args)[i]?=some (V2 op' n' v' name' (ng nl' (xL args'))):=λi op' n' v' name' nl' args' h=>by
  rw[<- Ex.ds_mk];exact m4 h
 obtain⟨d,hde⟩:∃d,d=ng nl (xL args):=⟨_,rfl⟩
 rw[<- hde] at hd ⊢
 obtain⟨es,hes⟩:∃es,es=xL args:=⟨_,rfl⟩
 rw[<- hes] at hlen hm hd hget
 by_cases h1:m=1
 ·subst h1
  rw[show min 1 (1+mx (args.map L9))=1 by omega]
  repeat' first|refine st ?_|((with_reducible apply D3);conv=>whnf)|(with_reducible first|apply A5|apply A4)<;>intro _
  all_goals rfl
 have h2:¬(m:Int)<=1:=by omega
 repeat' first|refine st ?_|((with_reducible apply D3);conv=>whnf)|(with_reducible first|apply A5|apply A4)<;>intro _
 refine I8 A6 C5M C4G (λ(i:Nat) (t:Nat)=>[.d (eI t),.d (eI i)]) (λi t=>[.cells [.d (eI op),.d (eI n),.d (eI v.k),.d (eI v.n),.d (.str v.s),.d (.str name),.d d]]) (λi t=>i<=args.length/\t=min m (1+mx ((args.map L9).take i))) (λi _=>args.length-i) 0 1 rfl rfl rfl rfl (λ_ _ _=>⟨rfl,rfl⟩) rfl ⟨by omega,by simp[mx];omega⟩ ?_
 repeat' first|refine st ?_|((with_reducible apply D3);conv=>whnf)|(with_reducible first|apply A5|apply A4)<;>intro _
 intro i t ⟨h4,h5⟩
 cases hx:args[i]? with
 |some x=>
  have hlt:=(B2.1 hx).1
  have hI:=ih' x (C2 hx) (m-1) (by omega) (by omega)
  have hmx:=B8c (l:=args.map L9) (i:=i) (x:=L9 x) (by rw[G4,hx];rfl)
  rw[show((m-1:Nat):Int)=(m:Int)-1 by omega] at hI
  obtain⟨y,hy⟩:∃y,y=L9 x:=⟨_,rfl⟩
  rw[<- hy] at hI hmx
  obtain⟨op',n',v',name',nl',args'⟩:=x
  rw[Ex.av_mk] at hI
  have hg:=hget i _ _ _ _ _ _ hx
  repeat' first|refine st ?_|((with_reducible apply D3);conv=>whnf)|((with_reducible first|apply A8|apply A7);(·exact hI))|(with_reducible first|apply A5|apply A4)<;>intro _
  refine⟨i+1,max t (1+min (m-1) y),?_,rfl,rfl,by omega,by omega,?_⟩
  ·simp only[List.cons.injEq,AV.d.injEq,D.int.injEq,true_and,and_true]
   omega
  ·rw[hmx];omega
 |none=>
  have hge:=D1.1 hx
  rw[L0 (by simpa using hge)] at h5
  repeat' first|refine st ?_|((with_reducible apply D3);conv=>whnf)|(with_reducible first|apply A5|apply A4)<;>intro _
  rw[h5]
theorem C0S(e:Ex)(he:e.bk<=1048576):Pure Tryz.prog B5e [e.av] (.d (eI (min 25 (L9 e):Nat))):=by
 have h:=C0U e he 25 (by omega) (by omega)
 obtain⟨op,n,v,name,nl,args⟩:=e
 rw[Ex.av_mk] at h ⊢
 refine C2W.go A6 rfl ?_
 repeat' first|refine st ?_|((with_reducible apply D3);conv=>whnf)|((with_reducible first|apply A8|apply A7);(·exact h))|(with_reducible first|apply A5|apply A4)<;>intro _
theorem C18:∀e:Ex,e.bk<=1048576->Pure Tryz.prog A8E [e.av] (.d (eI (L9 e:Nat))):=by
 refine Ex.ind λop n v name nl args ih hbk=>?_
 have hdb:=C9I (.mk op n v name nl args)
 obtain⟨b1,b2,b3,b4⟩:=Ex.bk_bounds hbk
 have ih':∀a∈args,Pure Tryz.prog A8E [a.av] (.d (eI (L9 a:Nat))):=λa ha=>ih a ha (b4 a ha)
 clear ih
 rw[A2i] at hdb
 rw[Ex.av_mk,A2i]
 refine C2b.go A6 rfl ?_
 have hlen:=I3 args
 have hm:=N5 args
 have hd:B5 (ng nl (xL args)) (xL args):=i5
 have hget:∀(i:Nat) (op' n':Int) (v':Vl) (name':List UInt8) (nl':Bool) (args':List Ex),args[i]?=some (.mk op' n' v' name' nl' args')->(xL args)[i]?=some (V2 op' n' v' name' (ng nl' (xL args'))):=λi op' n' v' name' nl' args' h=>by
  rw[<- Ex.ds_mk];exact m4 h
 obtain⟨d,hde⟩:∃d,d=ng nl (xL args):=⟨_,rfl⟩
 rw[<- hde] at hd ⊢
 obtain⟨es,hes⟩:∃es,es=xL args:=⟨_,rfl⟩
 rw[<- hes] at hlen hm hd hget
 repeat' first|refine st ?_|((with_reducible apply D3);conv=>whnf)|(with_reducible first|apply A5|apply A4)<;>intro _
 refine I8 A6 C55 C3Z (λ(i:Nat) (t:Nat)=>[.d (eI t),.d (eI i)]) (λi t=>[.cells [.d (eI op),.d (eI n),.d (eI v.k),.d (eI v.n),.d (.str v.s),.d (.str name),.d d]]) (λi t=>i<=args.length/\t=mx ((args.map L9).take i)) (λi _=>args.length-i) 0 0 rfl rfl rfl rfl (λ_ _ _=>⟨rfl,rfl⟩) rfl ⟨by omega,rfl⟩ ?_
 repeat' first|refine st ?_|((with_reducible apply D3);conv=>whnf)|(with_reducible first|apply A5|apply A4)<;>intro _
 intro i t ⟨h4,h5⟩
 cases hx:args[i]? with
 |some x=>
  have hlt:=(B2.1 hx).1
  have hI:=ih' x (C2 hx)
  have hmx:=B8c (l:=args.map L9) (i:=i) (x:=L9 x) (by rw[G4,hx];rfl)
  obtain⟨y,hy⟩:∃y,y=L9 x:=⟨_,rfl⟩
  rw[<- hy] at hI hmx
  obtain⟨op',n',v',name',nl',args'⟩:=x
  rw[Ex.av_mk] at hI
  have hg:=hget i _ _ _ _ _ _ hx
  repeat' first|refine st ?_|((with_reducible apply D3);conv=>whnf)|((with_reducible first|apply A8|apply A7);(·exact hI))|(with_reducible first|apply A5|apply A4)<;>intro _
  refine⟨i+1,max t y,?_,rfl,rfl,by omega,by omega,?_⟩
  ·simp only[List.cons.injEq,AV.d.injEq,D.int.injEq,true_and,and_true]
   omega
  ·rw[hmx,h5]
 |none=>
  have hge:=D1.1 hx
  rw[L0 (by simpa using hge)] at h5
  repeat' first|refine st ?_|((with_reducible apply D3);conv=>whnf)|(with_reducible first|apply A5|apply A4)<;>intro _
  rw[h5]
  simp only[AV.d.injEq,D.int.injEq,true_and]
  omega
end Go.Proofs
end
