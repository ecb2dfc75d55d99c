/- Texts of this claim, joined. No condition. -/
import Derived.Test.YtnhhopmldgpglaaGreatDoorQ8
import Derived.Shelf.LaysM
import Derived.Shelf.Strconv.Itoa3
import Derived.Shelf.Strings.Search3
import Derived.Shelf.Strings.Replace
import Derived.Test.YtnhhopmldgpglaaGreatDoorProg
import Derived.Shelf.Spec.SlicesGrow
import Derived.Ground.Names8Prog
import Derived.Test.YtnhhopmldgpglaaGreatDoorNm
set_option linter.unusedSimpArgs false
set_option linter.unusedVariables false
set_option maxRecDepth 10000
set_option maxHeartbeats 4000000
section
namespace Go.Proofs
open Go.Bi
def kiA(l:List Co)(k:Int):Int:=(l[k.toNat]?.map Co.k).getD 0
def kiE(a p:List Co):List Int->List Int->Int
 |c::cs,k::ks=>if kiA a c=kiA p k then kiE a p cs ks else 7
 |_,_=>0
theorem A8G{a p:List Co}:∀{cs ks:List Int}{i:Nat}{c k:Int},cs[i]?=some c->ks[i]?=some k->kiE a p (cs.drop i) (ks.drop i)=if kiA a c=kiA p k then kiE a p (cs.drop (i+1)) (ks.drop (i+1)) else 7:=by
 intro cs ks i c k h g
 obtain⟨h1,h2⟩:=A7.1 h
 obtain⟨g1,g2⟩:=A7.1 g
 rw[P7 h1,P7 g1,h2,g2]
 rfl
def A0L(x:TD)(c:List En)(nm:List UInt8):TD×Bool:=if nm=x.t.nm then (x,true) else ((P0 (E5 D5 nm c)).1,(P0 (E5 D5 nm c)).2.2)
def frE(x:TD)(c:List En)(f:Fo):Int:=
 if (A0L x c f.tb).2=false then 11 else if f.cs.length=(A0L x c f.tb).1.t.ks.length then kiE x.t.cs (A0L x c f.tb).1.t.cs f.cs (A0L x c f.tb).1.t.ks else 13
def A3N(x:TD)(c:List En):List Fo->Int
 |[]=>0
 |f::r=>if frE x c f=0 then A3N x c r else frE x c f
theorem D4G{x:TD}{c:List En}{l:List Fo}{i:Nat}{f:Fo}(h:l[i]?=some f):A3N x c (l.drop i)=if frE x c f=0 then A3N x c (l.drop (i+1)) else frE x c f:=by
 obtain⟨hlt,he⟩:=A7.1 h
 rw[P7 hlt,he];rfl
def o9(c:List En)(at':Int)(x:TD):Int:=
 if Y1 c at'=0 then (if H9 x.t=0 then (if 16<=(Q1 D5 c).length then 5 else if (W4 (Q1 D5 c)).contains x.t.nm then 10 else A3N x c x.t.fs) else H9 x.t) else Y1 c at'
theorem D5A{s:List En}(h:(P0 s).2.2=true):Vd (P0 s).1.t:=by
 unfold P0 at h ⊢
 split at h
 ·rename_i hb
  rw[if_pos hb]
  have h:=of_decide_eq_true h
  show Vd ((A1j s).runs (V0 s)).1.t
  unfold TD.runs at h ⊢
  split at h
  ·rename_i ht
   rw[if_pos ht]
   exact V3.1 (A70 _ _ _ (TD.cp_vd ht) h).1
  ·rename_i ht
   exact absurd h ht
 ·cases h
theorem D6z{x:TD}{c:List En}{nm:List UInt8}(hx:H9 x.t=0)(h:(A0L x c nm).2=true):Vd (A0L x c nm).1.t:=by
 unfold A0L at h ⊢
 split
 ·exact V3.1 hx
 ·rename_i hn
  rw[if_neg hn] at h
  exact D5A h
theorem A36{l:List Co}{k:Int}{c:Co}(h:l[k.toNat]?=some c):kiA l k=c.k:=by unfold kiA;rw[h];rfl
theorem C3a(c:List En)(hc:c.length<=1048576)(hok:∀e∈c,e.ok)(d:D)(hd:B3 d (D3 c))(at':Int)(x:TD)(hx:x.ok) :
  Pure Tryz.prog B7g [.d d,.d (eI at'),x.av] (.d (eI (o9 c at' x))):=by
 have hT:=B2E c hc d hd at'
 have hC:=A7u x.t x.dc x.dk x.df x.dx hx.tok
 have hM:=C38 c hc d hd D5
 have hml:=B2f (Q1 D5 c)
 have hmc:=B14 D5 c
 have hsl:=A0Q (W4 (Q1 D5 c))
 have hsd:B3 (stD (W4 (Q1 D5 c))) (I0 (W4 (Q1 D5 c))):=W3 λe=>u9.1 e
 have hH:=C4G (W4 (Q1 D5 c)) (by omega) _ hsd x.t.nm
 have hN:=λnm=>A9v c hc hok d hd D5 nm
 have hNo:=λnm=>(C0J (A3b (at':=D5) (nm:=nm) hok)).tok
 have hP:=λnm=>@D6z x c nm
 have hV:=@V3 x.t
 obtain⟨q,hq⟩:∃q,q=o9 c at' x:=⟨_,rfl⟩
 rw[<- hq]
 unfold o9 at hq
 obtain⟨e,he⟩:∃e,e=Y1 c at':=⟨_,rfl⟩
 rw[<- he] at hT hq
 clear he
 obtain⟨X9,hnm⟩:∃n,n=W4 (Q1 D5 c):=⟨_,rfl⟩
 rw[<- hnm] at hM hH hq hsd hsl hml
 rw[<- hml] at hq
 clear hnm
 obtain⟨nd,hnd⟩:∃n,n=stD X9:=⟨_,rfl⟩
 rw[<- hnd] at hM hH hsd
 clear hnd
 obtain⟨ss,hss⟩:∃n,n=I0 X9:=⟨_,rfl⟩
 rw[<- hss] at hsd hsl
 clear hss
 obtain⟨te,hte⟩:∃n,n=H9 x.t:=⟨_,rfl⟩
 rw[<- hte] at hC hq
 by_cases g1:e=0
 rotate_left
 ·rw[if_neg g1] at hq
  subst hq
  refine A5r.go A4 rfl ?_
  repeat' first|refine st ?_|refine⟨λ_=>?_,λ_=>?_⟩|fail
  all_goals rfl
 subst g1
 rw[if_pos rfl] at hq
 by_cases g2:te=0
 rotate_left
 ·rw[if_neg g2] at hq
  subst hq
  refine A5r.go A4 rfl ?_
  repeat' first|refine st ?_|refine⟨λ_=>?_,λ_=>?_⟩|fail
  all_goals rfl
 rw[if_pos g2] at hq
 subst g2
 have hv:=hV.1 hte.symm
 by_cases g3:16<=X9.length
 ·rw[if_pos g3] at hq
  subst hq
  have g4:(16:Int)<=ss.length:=by omega
  refine A5r.go A4 rfl ?_
  repeat' first|refine st ?_|refine⟨λ_=>?_,λ_=>?_⟩|fail
  all_goals first|rfl|(exfalso;omega)
 rw[if_neg g3] at hq
 have g4:¬(16:Int)<=ss.length:=by omega
 obtain⟨b,hb⟩:∃b,b=X9.contains x.t.nm:=⟨_,rfl⟩
 rw[<- hb] at hH hq
 cases b with
 |true=>
  rw[if_pos rfl] at hq
  subst hq
  refine A5r.go A4 rfl ?_
  repeat' first|refine st ?_|refine⟨λ_=>?_,λ_=>?_⟩|fail
  all_goals first|rfl|(exfalso;omega)
 |false=>
  rw[if_neg (by decide)] at hq
  have hfl:=hv.fl
  have hfs:=hv.fs
  have h1:=A0C x.t.fs
  have hm:=A2j x.t.fs
  have hdf:=hx.tok.df
  have hdc:=hx.tok.dc
  have hcl:=F3 x.t.cs
  have hcm:=H8 x.t.cs
  have hc12:=hv.l2
  refine A5r.go A4 rfl ?_
  --L
  repeat' first|refine st ?_|refine⟨λ_=>?_,λ_=>?_⟩|fail
  refine F2 A4 C92 C7U (λ(i:Nat)=>[.d (eI i)]) (λi=>[.cells [.d (.str x.t.nm),.d x.dc,.d x.dk,.d x.df,.d x.dx]]) (λi=>i<=x.t.fs.length/\q=A3N x c (x.t.fs.drop i)) (λi=>x.t.fs.length-i) 0 rfl rfl rfl rfl (λ_ _=>⟨rfl,rfl⟩) rfl ⟨by omega,hq⟩ ?_
  repeat' first|refine st ?_|refine⟨λ_=>?_,λ_=>?_⟩|fail
  intro i ⟨h4,h5⟩
  cases hy:x.t.fs[i]? with
  |some f=>
   have hlt:=(A7.1 hy).1
   have hg:=A2V hy
   obtain⟨_,_,hfi,_⟩:=hfs f (B9 hy)
   have hN2:=hN f.tb
   have hP2:=hP f.tb hte.symm
   have hO2:=hNo f.tb
   rw[D4G hy] at h5
   have k1:=B4 f.cs
   have k2:=C9 f.cs
   have hfd:=f.sld
   obtain⟨nl,cs,tb⟩:=f
   have hg:(G5 x.t.fs)[i]?=some [Fo.d ⟨nl,cs,tb⟩,.str tb]:=hg
   obtain⟨fd,hfe⟩:∃fd,fd=Fo.d ⟨nl,cs,tb⟩:=⟨_,rfl⟩
   rw[<- hfe] at hfd hg
   clear hfe
   dsimp only at k1 k2 hfd hN2 hP2 hO2 hfi
   obtain⟨ve,hve⟩:∃v,v=frE x c ⟨nl,cs,tb⟩:=⟨_,rfl⟩
   rw[<- hve] at h5
   unfold frE at hve
   dsimp only at hve
   unfold A0L at hve hP2
   obtain⟨⟨y,n,b⟩,hyn⟩:∃z,z=P0 (E5 D5 tb c):=⟨_,rfl⟩
   rw[<- hyn] at hN2 hP2 hve hO2
   clear hyn
   dsimp only at hve hP2 hO2
   have hN2:Bi.Pure Tryz.prog A5K [.d d,.d (eI D5),.d (.str tb)] (.tup [eT y.t.nm y.dc y.dk y.df y.dx,.d (eI n),.d (.bool b)]):=hN2
   by_cases hs:tb=x.t.nm
   ·rw[if_pos hs] at hve
    rw[if_neg (by simp)] at hve
    rw[if_pos hs] at hP2
    have yvd:Vd x.t:=hP2 rfl
    have ydc:=hx.tok.dc
    have ydk:=hx.tok.dk
    have y1:=B4 x.t.ks
    have y2:=C9 x.t.ks
    have y3:=F3 x.t.cs
    have y4:=H8 x.t.cs
    have y5:=yvd.l2
    have y6:=hx.tok.hk
    dsimp only at hve
    by_cases hlen:cs.length=x.t.ks.length
    rotate_left
    ·rw[if_neg hlen] at hve
     rw[hve,if_neg (by decide)] at h5
     subst h5
     have g5:¬((cs.length:Nat):Int)=(A0 x.t.ks).length:=by omega
     repeat' first|refine st ?_|refine⟨λ_=>?_,λ_=>?_⟩|fail
     all_goals first|rfl|(exfalso;omega)
    rw[if_pos hlen] at hve
    have g5:((cs.length:Nat):Int)=(A0 x.t.ks).length:=by omega
    repeat' first|refine st ?_|refine⟨λ_=>?_,λ_=>?_⟩|fail
    refine F2 A4 B6u B6h (λ(k:Nat)=>[.d (eI k)]) (λk=>[.cells [.d (.str x.t.nm),.d x.dc,.d x.dk,.d x.df,.d x.dx],.cells [.d fd,.d (.str tb)],.cells [.d (.str x.t.nm),.d x.dc,.d x.dk,.d x.df,.d x.dx]]) (λk=>k<=cs.length/\ve=kiE x.t.cs x.t.cs (cs.drop k) (x.t.ks.drop k)) (λk=>cs.length-k) 0 rfl rfl rfl rfl (λ_ _=>⟨rfl,rfl⟩) rfl ⟨by omega,hve⟩ ?_
    repeat' first|refine st ?_|refine⟨λ_=>?_,λ_=>?_⟩|fail
    intro k ⟨h6,h7⟩
    cases hz:cs[k]? with
    |some ci=>
     have hlt2:=(A7.1 hz).1
     have hg2:=K5 hz
     obtain⟨ki,hki⟩:∃ki,x.t.ks[k]?=some ki:=⟨_,C3 (by omega)⟩
     have hg3:=K5 hki
     obtain⟨i1,i2⟩:=hfi ci (B9 hz)
     obtain⟨i3,i4,_⟩:=yvd.ks ki (B9 hki)
     obtain⟨ca,hca⟩:∃a,x.t.cs[ci.toNat]?=some a:=⟨_,C3 (by omega)⟩
     obtain⟨cb,hcb⟩:∃a,x.t.cs[ki.toNat]?=some a:=⟨_,C3 (by omega)⟩
     rw[A8G hz hki,A36 hca,A36 hcb] at h7
     have hg4:=L4 hca
     have hg5:=L4 hcb
     obtain⟨an,ak,al⟩:=ca
     obtain⟨bn,bk,bl⟩:=cb
     dsimp only at h7 hg4 hg5
     by_cases hkk:ak=bk
     ·rw[if_pos hkk] at h7
      subst hkk
      have r1:ak=ak:=rfl
      repeat' first|refine st ?_|refine⟨λ_=>?_,λ_=>?_⟩|fail
      all_goals first|exact⟨k+1,rfl,rfl,rfl,by omega,by omega,h7⟩|(exfalso;rename_i hh;exact hh rfl)
     ·rw[if_neg hkk] at h7
      rw[h7,if_neg (by decide)] at h5
      subst h5
      repeat' first|refine st ?_|refine⟨λ_=>?_,λ_=>?_⟩|fail
      all_goals rfl
    |none=>
     have hge2:=C8.1 hz
     rw[S1 hge2] at h7
     have h7:ve=0:=h7
     rw[if_pos h7] at h5
     repeat' first|refine st ?_|refine⟨λ_=>?_,λ_=>?_⟩|fail
     exact⟨i+1,rfl,rfl,rfl,by omega,by omega,h5⟩
   ·rw[if_neg hs] at hve hP2
    cases b with
    |false=>
     rw[if_pos rfl] at hve
     rw[hve,if_neg (by decide)] at h5
     subst h5
     repeat' first|refine st ?_|refine⟨λ_=>?_,λ_=>?_⟩|fail
     all_goals rfl
    |true=>
    have yvd:Vd y.t:=hP2 rfl
    have ydc:=hO2.dc
    have ydk:=hO2.dk
    have y1:=B4 y.t.ks
    have y2:=C9 y.t.ks
    have y3:=F3 y.t.cs
    have y4:=H8 y.t.cs
    have y5:=yvd.l2
    have y6:=hO2.hk
    rw[if_neg (by simp)] at hve
    dsimp only at hve
    by_cases hlen:cs.length=y.t.ks.length
    rotate_left
    ·rw[if_neg hlen] at hve
     rw[hve,if_neg (by decide)] at h5
     subst h5
     have g5:¬((cs.length:Nat):Int)=(A0 y.t.ks).length:=by omega
     repeat' first|refine st ?_|refine⟨λ_=>?_,λ_=>?_⟩|fail
     all_goals first|rfl|(exfalso;omega)
    rw[if_pos hlen] at hve
    have g5:((cs.length:Nat):Int)=(A0 y.t.ks).length:=by omega
    repeat' first|refine st ?_|refine⟨λ_=>?_,λ_=>?_⟩|fail
    refine F2 A4 B6u B6h (λ(k:Nat)=>[.d (eI k)]) (λk=>[.cells [.d (.str x.t.nm),.d x.dc,.d x.dk,.d x.df,.d x.dx],.cells [.d fd,.d (.str tb)],.cells [.d (.str y.t.nm),.d y.dc,.d y.dk,.d y.df,.d y.dx]]) (λk=>k<=cs.length/\ve=kiE x.t.cs y.t.cs (cs.drop k) (y.t.ks.drop k)) (λk=>cs.length-k) 0 rfl rfl rfl rfl (λ_ _=>⟨rfl,rfl⟩) rfl ⟨by omega,hve⟩ ?_
    repeat' first|refine st ?_|refine⟨λ_=>?_,λ_=>?_⟩|fail
    intro k ⟨h6,h7⟩
    cases hz:cs[k]? with
    |some ci=>
     have hlt2:=(A7.1 hz).1
     have hg2:=K5 hz
     obtain⟨ki,hki⟩:∃ki,y.t.ks[k]?=some ki:=⟨_,C3 (by omega)⟩
     have hg3:=K5 hki
     obtain⟨i1,i2⟩:=hfi ci (B9 hz)
     obtain⟨i3,i4,_⟩:=yvd.ks ki (B9 hki)
     obtain⟨ca,hca⟩:∃a,x.t.cs[ci.toNat]?=some a:=⟨_,C3 (by omega)⟩
     obtain⟨cb,hcb⟩:∃a,y.t.cs[ki.toNat]?=some a:=⟨_,C3 (by omega)⟩
     rw[A8G hz hki,A36 hca,A36 hcb] at h7
     have hg4:=L4 hca
     have hg5:=L4 hcb
     obtain⟨an,ak,al⟩:=ca
     obtain⟨bn,bk,bl⟩:=cb
     dsimp only at h7 hg4 hg5
     by_cases hkk:ak=bk
     ·rw[if_pos hkk] at h7
      subst hkk
      have r1:ak=ak:=rfl
      repeat' first|refine st ?_|refine⟨λ_=>?_,λ_=>?_⟩|fail
      all_goals first|exact⟨k+1,rfl,rfl,rfl,by omega,by omega,h7⟩|(exfalso;rename_i hh;exact hh rfl)
     ·rw[if_neg hkk] at h7
      rw[h7,if_neg (by decide)] at h5
      subst h5
      repeat' first|refine st ?_|refine⟨λ_=>?_,λ_=>?_⟩|fail
      all_goals rfl
    |none=>
     have hge2:=C8.1 hz
     rw[S1 hge2] at h7
     have h7:ve=0:=h7
     rw[if_pos h7] at h5
     repeat' first|refine st ?_|refine⟨λ_=>?_,λ_=>?_⟩|fail
     exact⟨i+1,rfl,rfl,rfl,by omega,by omega,h5⟩
  |none=>
   have hge:=C8.1 hy
   rw[S1 hge] at h5
   rw[h5]
   repeat' first|refine st ?_|refine⟨λ_=>?_,λ_=>?_⟩|fail
   all_goals rfl
def A09(c:List En)(e:En):Int:=
 if Y1 c e.tm=0 then (if M7 e.ch=false then (if zeB e.cr.t=false then 8 else alE c e.tm e.tb e.ch) else (if e.tb=e.cr.t.nm then o9 c e.tm e.cr else 8)) else Y1 c e.tm
def o7(E:List En->En->Int)(p:List En):List En->Int
 |[]=>0
 |e::r=>if E p e=0 then o7 E (p++[e]) r else E p e
theorem D38{E:List En->En->Int}{c:List En}{i:Nat}{e:En}(h:c[i]?=some e):o7 E (c.take i) (c.drop i)=if E (c.take i) e=0 then o7 E (c.take (i+1)) (c.drop (i+1)) else E (c.take i) e:=by
 obtain⟨hlt,he⟩:=A7.1 h
 rw[P7 hlt,he,P1,h]
 rfl
theorem C1F:∀(l:List Ch)(x:TD)(i:Nat),(TD.runR x i l).2.2≠0->(TD.runR x i l).1=O1
 |[],x,i,h=>absurd rfl h
 |c::r,x,i,h=>by
  unfold TD.runR at h ⊢
  split at h
  ·rename_i hq
   rw[if_pos hq]
   exact C1F r _ _ h
  ·rename_i hq
   rw[if_neg hq]
theorem D79(x:TD)(l:List Ch):Vd (x.runsR l).1.t\/(x.runsR l).1=O1:=by
 by_cases hq:H9 x.t=0
 ·by_cases he:(x.runsR l).2.2=0
  ·refine .inl (V3.1 ?_)
   obtain⟨h1,h2⟩:=A3V x l
   rw[<- A77,<- h2,A77]
   rw[<- h1] at he
   unfold TD.runs at he ⊢
   rw[if_pos hq] at he ⊢
   exact(A70 _ _ _ (TD.cp_vd hq) he).1
  ·refine .inr ?_
   unfold TD.runsR at he ⊢
   rw[if_pos hq] at he ⊢
   exact C1F _ _ _ he
 ·refine .inr ?_
  unfold TD.runsR
  rw[if_neg hq]
theorem D2p(s:List En):Vd (Z3 s).1.t\/(Z3 s).1=O1:=by
 unfold Z3
 split
 ·exact D79 _ _
 ·exact .inr rfl
theorem D2o{s:List En}(h:∀e∈s,e.ok):(Z3 s).1.ok:=by
 unfold Z3
 split
 ·exact A97 (A93 h) (A92 h)
 ·exact A1r
def A2q(x:TD)(c:List En)(nm:List UInt8):TD×Bool:=if nm=x.t.nm then (x,true) else ((Z3 (E5 D5 nm c)).1,decide ((Z3 (E5 D5 nm c)).2.2=0))
def frR(x:TD)(c:List En)(f:Fo):Int:=
 if (A2q x c f.tb).2=false then 11 else if f.cs.length=(A2q x c f.tb).1.t.ks.length then kiE x.t.cs (A2q x c f.tb).1.t.cs f.cs (A2q x c f.tb).1.t.ks else 13
theorem C4m(c:List En)(hc:c.length<=1048576)(hok:∀e∈c,e.ok)(d:D)(hd:B3 d (D3 c))(x:TD)(hx:x.ok)(hv:Vd x.t)(f:Fo)(hf:f∈x.t.fs) :
  Pure Tryz.prog B7b [.d d,x.av,.agg [.d (Fo.d f),.d (.str f.tb)]] (.d (eI (frR x c f))):=by
 have hN2:=B2Y c hc hok d hd D5 f.tb
 have hA:=D2p (E5 D5 f.tb c)
 have hO2:=(D2o (A3b (at':=D5) (nm:=f.tb) hok)).tok
 obtain⟨_,hfn,hfi,_⟩:=hv.fs f hf
 have hdc:=hx.tok.dc
 have hcl:=F3 x.t.cs
 have hcm:=H8 x.t.cs
 have hc12:=hv.l2
 have k1:=B4 f.cs
 have k2:=C9 f.cs
 have hfd:=f.sld
 have hfl:=(hx.tok.hfc f hf).1
 obtain⟨nl,cs,tb⟩:=f
 obtain⟨fd,hfe⟩:∃fd,fd=Fo.d ⟨nl,cs,tb⟩:=⟨_,rfl⟩
 dsimp only
 rw[<- hfe] at hfd ⊢
 clear hfe hf
 dsimp only at k1 k2 hfd hN2 hA hO2 hfi hfn hfl
 obtain⟨ve,hve⟩:∃v,v=frR x c ⟨nl,cs,tb⟩:=⟨_,rfl⟩
 rw[<- hve]
 unfold frR at hve
 dsimp only at hve
 unfold A2q at hve
 obtain⟨⟨y,n,b⟩,hyn⟩:∃z,z=Z3 (E5 D5 tb c):=⟨_,rfl⟩
 rw[<- hyn] at hN2 hve hO2 hA
 clear hyn
 dsimp only at hve hO2 hA
 have hN2:Bi.Pure Tryz.prog A7Q [.d d,.d (eI D5),.d (.str tb)] (.tup [eT y.t.nm y.dc y.dk y.df y.dx,.d (eI n),.d (eI b)]):=hN2
 by_cases hs:tb=x.t.nm
 ·rw[if_pos hs] at hve
  rw[if_neg (by simp)] at hve
  have yvd:Vd x.t:=hv
  have ydc:=hx.tok.dc
  have ydk:=hx.tok.dk
  have y1:=B4 x.t.ks
  have y2:=C9 x.t.ks
  have y3:=F3 x.t.cs
  have y4:=H8 x.t.cs
  have y5:=yvd.l2
  have y6:=hx.tok.hk
  dsimp only at hve
  by_cases hlen:cs.length=x.t.ks.length
  rotate_left
  ·rw[if_neg hlen] at hve
   subst hve
   have g5:¬((cs.length:Nat):Int)=(A0 x.t.ks).length:=by omega
   have g6:¬((A0 cs).length:Int)=(A0 x.t.ks).length:=by omega
   refine A5q.go A4 rfl ?_
   repeat' first|refine st ?_|refine⟨λ_=>?_,λ_=>?_⟩|fail
   all_goals first|rfl|(exfalso;omega)
  rw[if_pos hlen] at hve
  have g5:((cs.length:Nat):Int)=(A0 x.t.ks).length:=by omega
  have g6:((A0 cs).length:Int)=(A0 x.t.ks).length:=by omega
  refine A5q.go A4 rfl ?_
  repeat' first|refine st ?_|refine⟨λ_=>?_,λ_=>?_⟩|fail
  refine F2 A4 B6t B6g (λ(k:Nat)=>[.d (eI k)]) (λk=>[.cells [.d (.str x.t.nm),.d x.dc,.d x.dk,.d x.df,.d x.dx],.cells [.d fd,.d (.str tb)],.cells [.d (.str x.t.nm),.d x.dc,.d x.dk,.d x.df,.d x.dx]]) (λk=>k<=cs.length/\ve=kiE x.t.cs x.t.cs (cs.drop k) (x.t.ks.drop k)) (λk=>cs.length-k) 0 rfl rfl rfl rfl (λ_ _=>⟨rfl,rfl⟩) rfl ⟨by omega,hve⟩ ?_
  repeat' first|refine st ?_|refine⟨λ_=>?_,λ_=>?_⟩|fail
  intro k ⟨h6,h7⟩
  cases hz:cs[k]? with
  |some ci=>
   have hlt2:=(A7.1 hz).1
   have hg2:=K5 hz
   obtain⟨ki,hki⟩:∃ki,x.t.ks[k]?=some ki:=⟨_,C3 (by omega)⟩
   have hg3:=K5 hki
   obtain⟨i1,i2⟩:=hfi ci (B9 hz)
   obtain⟨i3,i4,_⟩:=yvd.ks ki (B9 hki)
   obtain⟨ca,hca⟩:∃a,x.t.cs[ci.toNat]?=some a:=⟨_,C3 (by omega)⟩
   obtain⟨cb,hcb⟩:∃a,x.t.cs[ki.toNat]?=some a:=⟨_,C3 (by omega)⟩
   rw[A8G hz hki,A36 hca,A36 hcb] at h7
   have hg4:=L4 hca
   have hg5:=L4 hcb
   obtain⟨an,ak,al⟩:=ca
   obtain⟨bn,bk,bl⟩:=cb
   dsimp only at h7 hg4 hg5
   by_cases hkk:ak=bk
   ·rw[if_pos hkk] at h7
    subst hkk
    have r1:ak=ak:=rfl
    repeat' first|refine st ?_|refine⟨λ_=>?_,λ_=>?_⟩|fail
    all_goals first|exact⟨k+1,rfl,rfl,rfl,by omega,by omega,h7⟩|(exfalso;rename_i hh;exact hh rfl)
   ·rw[if_neg hkk] at h7
    subst h7
    repeat' first|refine st ?_|refine⟨λ_=>?_,λ_=>?_⟩|fail
    all_goals rfl
  |none=>
   have hge2:=C8.1 hz
   rw[S1 hge2] at h7
   have h7:ve=0:=h7
   subst h7
   repeat' first|refine st ?_|refine⟨λ_=>?_,λ_=>?_⟩|fail
   all_goals rfl
 ·rw[if_neg hs] at hve
  dsimp only at hve
  by_cases hb:b=0
  rotate_left
  ·rw[decide_eq_false hb,if_pos rfl] at hve
   subst hve
   refine A5q.go A4 rfl ?_
   repeat' first|refine st ?_|refine⟨λ_=>?_,λ_=>?_⟩|fail
   all_goals rfl
  subst hb
  rw[decide_eq_true rfl,if_neg (by decide)] at hve
  have ydc:=hO2.dc
  have ydk:=hO2.dk
  have y1:=B4 y.t.ks
  have y2:=C9 y.t.ks
  have y3:=F3 y.t.cs
  have y4:=H8 y.t.cs
  have y6:=hO2.hk
  by_cases hlen:cs.length=y.t.ks.length
  rotate_left
  ·rw[if_neg hlen] at hve
   subst hve
   have g5:¬((cs.length:Nat):Int)=(A0 y.t.ks).length:=by omega
   have g6:¬((A0 cs).length:Int)=(A0 y.t.ks).length:=by omega
   refine A5q.go A4 rfl ?_
   repeat' first|refine st ?_|refine⟨λ_=>?_,λ_=>?_⟩|fail
   all_goals first|rfl|(exfalso;omega)
  have yvd:Vd y.t:=by
   rcases hA with h|h
   ·exact h
   ·exfalso
    rw[h] at hlen
    exact hfn (A2K.1 hlen)
  have y5:=yvd.l2
  rw[if_pos hlen] at hve
  have g5:((cs.length:Nat):Int)=(A0 y.t.ks).length:=by omega
  have g6:((A0 cs).length:Int)=(A0 y.t.ks).length:=by omega
  refine A5q.go A4 rfl ?_
  repeat' first|refine st ?_|refine⟨λ_=>?_,λ_=>?_⟩|fail
  refine F2 A4 B6t B6g (λ(k:Nat)=>[.d (eI k)]) (λk=>[.cells [.d (.str x.t.nm),.d x.dc,.d x.dk,.d x.df,.d x.dx],.cells [.d fd,.d (.str tb)],.cells [.d (.str y.t.nm),.d y.dc,.d y.dk,.d y.df,.d y.dx],.cells [.d (.str y.t.nm),.d y.dc,.d y.dk,.d y.df,.d y.dx]]) (λk=>k<=cs.length/\ve=kiE x.t.cs y.t.cs (cs.drop k) (y.t.ks.drop k)) (λk=>cs.length-k) 0 rfl rfl rfl rfl (λ_ _=>⟨rfl,rfl⟩) rfl ⟨by omega,hve⟩ ?_
  repeat' first|refine st ?_|refine⟨λ_=>?_,λ_=>?_⟩|fail
  intro k ⟨h6,h7⟩
  cases hz:cs[k]? with
  |some ci=>
   have hlt2:=(A7.1 hz).1
   have hg2:=K5 hz
   obtain⟨ki,hki⟩:∃ki,y.t.ks[k]?=some ki:=⟨_,C3 (by omega)⟩
   have hg3:=K5 hki
   obtain⟨i1,i2⟩:=hfi ci (B9 hz)
   obtain⟨i3,i4,_⟩:=yvd.ks ki (B9 hki)
   obtain⟨ca,hca⟩:∃a,x.t.cs[ci.toNat]?=some a:=⟨_,C3 (by omega)⟩
   obtain⟨cb,hcb⟩:∃a,y.t.cs[ki.toNat]?=some a:=⟨_,C3 (by omega)⟩
   rw[A8G hz hki,A36 hca,A36 hcb] at h7
   have hg4:=L4 hca
   have hg5:=L4 hcb
   obtain⟨an,ak,al⟩:=ca
   obtain⟨bn,bk,bl⟩:=cb
   dsimp only at h7 hg4 hg5
   by_cases hkk:ak=bk
   ·rw[if_pos hkk] at h7
    subst hkk
    have r1:ak=ak:=rfl
    repeat' first|refine st ?_|refine⟨λ_=>?_,λ_=>?_⟩|fail
    all_goals first|exact⟨k+1,rfl,rfl,rfl,by omega,by omega,h7⟩|(exfalso;rename_i hh;exact hh rfl)
   ·rw[if_neg hkk] at h7
    subst h7
    repeat' first|refine st ?_|refine⟨λ_=>?_,λ_=>?_⟩|fail
    all_goals rfl
  |none=>
   have hge2:=C8.1 hz
   rw[S1 hge2] at h7
   have h7:ve=0:=h7
   subst h7
   repeat' first|refine st ?_|refine⟨λ_=>?_,λ_=>?_⟩|fail
   all_goals rfl
def A3O(x:TD)(c:List En):List Fo->Int
 |[]=>0
 |f::r=>if frR x c f=0 then A3O x c r else frR x c f
theorem D4H{x:TD}{c:List En}{l:List Fo}{i:Nat}{f:Fo}(h:l[i]?=some f):A3O x c (l.drop i)=if frR x c f=0 then A3O x c (l.drop (i+1)) else frR x c f:=by
 obtain⟨hlt,he⟩:=A7.1 h
 rw[P7 hlt,he];rfl
def crR(c:List En)(e:En):Int:=
 if e.tb=e.cr.t.nm then (if H9 e.cr.t=0 then (if 16<=(Q1 D5 c).length then 5 else if (Z3 (E5 D5 e.cr.t.nm c)).2.2=0 then 10 else A3O e.cr c e.cr.t.fs) else H9 e.cr.t) else 8
theorem C4k(c:List En)(hc:c.length<=1048575)(hok:∀e∈c,e.ok)(d:D)(hd:B3 d (D3 c))(e:En)(he:e.ok) :
  Pure Tryz.prog B78 [.d d,e.av] (.d (eI (crR c e))):=by
 have hC:=A9z e.cr.t e.cr.dc e.cr.dk e.cr.df e.cr.dx he.cr.tok
 have hM:=C4j c hc d hd D5
 have hml:=B2f (Q1 D5 c)
 have hsl:=A0Q (W4 (Q1 D5 c))
 have hA:=B2Y c (by omega) hok d hd D5 e.cr.t.nm
 have hV:=@V3 e.cr.t
 have hR:=C4m c (by omega) hok d hd e.cr he.cr
 have hx:=he.cr
 obtain⟨q,hq⟩:∃q,q=crR c e:=⟨_,rfl⟩
 rw[<- hq]
 unfold crR at hq
 obtain⟨te,hte⟩:∃n,n=H9 e.cr.t:=⟨_,rfl⟩
 rw[<- hte] at hC hq
 rw[<- hml] at hq
 obtain⟨ss,hss⟩:∃n,n=I0 (W4 (Q1 D5 c)):=⟨_,rfl⟩
 rw[<- hss] at hsl hM
 clear hss
 obtain⟨⟨y,n,b⟩,hyn⟩:∃z,z=Z3 (E5 D5 e.cr.t.nm c):=⟨_,rfl⟩
 rw[<- hyn] at hA hq
 clear hyn
 dsimp only at hq
 obtain⟨tm,tb,x,⟨k,cnm,to,⟨cn,ck,cl⟩,⟨vk,vn,vs⟩⟩⟩:=e
 dsimp only at hC hA hR hx hq hte hV ⊢
 have hA:Bi.Pure Tryz.prog A7Q [.d d,.d (eI D5),.d (.str x.t.nm)] (.tup [eT y.t.nm y.dc y.dk y.df y.dx,.d (eI n),.d (eI b)]):=hA
 clear he
 by_cases q1:tb=x.t.nm
 rotate_left
 ·rw[if_neg q1] at hq
  subst hq
  refine A5p.go A4 rfl ?_
  repeat' first|refine st ?_|refine⟨λ_=>?_,λ_=>?_⟩|fail
  all_goals rfl
 rw[if_pos q1] at hq
 by_cases q2:te=0
 rotate_left
 ·rw[if_neg q2] at hq
  subst hq
  refine A5p.go A4 rfl ?_
  repeat' first|refine st ?_|refine⟨λ_=>?_,λ_=>?_⟩|fail
  all_goals rfl
 rw[if_pos q2] at hq
 subst q2
 have hv:=hV.1 hte.symm
 by_cases q3:16<=(W4 (Q1 D5 c)).length
 ·rw[if_pos q3] at hq
  subst hq
  have g4:(16:Int)<=ss.length:=by omega
  refine A5p.go A4 rfl ?_
  repeat' first|refine st ?_|refine⟨λ_=>?_,λ_=>?_⟩|fail
  all_goals first|rfl|(exfalso;omega)
 rw[if_neg q3] at hq
 have g4:¬(16:Int)<=ss.length:=by omega
 by_cases q4:b=0
 ·rw[if_pos q4] at hq
  subst hq
  subst q4
  refine A5p.go A4 rfl ?_
  repeat' first|refine st ?_|refine⟨λ_=>?_,λ_=>?_⟩|fail
  all_goals first|rfl|(exfalso;omega)
 rw[if_neg q4] at hq
 have hR:=hR hv
 have hfl:=hv.fl
 have h1:=A0C x.t.fs
 have hm:=A2j x.t.fs
 have hdf:=hx.tok.df
 clear hte
 refine A5p.go A4 rfl ?_
 repeat' first|refine st ?_|refine⟨λ_=>?_,λ_=>?_⟩|fail
 refine F2 A4 C8Y C7Q (λ(i:Nat)=>[.d (eI i)]) (λi=>[.cells [.d (eI tm),.d (.str tb),.d (.str x.t.nm),.d x.dc,.d x.dk,.d x.df,.d x.dx,.d (eI k),.d (.str cnm),.d (.str to),.d (.str cn),.d (eI ck),.d (.bool cl),.d (eI vk),.d (eI vn),.d (.str vs)],.cells [.d (.str x.t.nm),.d x.dc,.d x.dk,.d x.df,.d x.dx],.cells [.d (.str y.t.nm),.d y.dc,.d y.dk,.d y.df,.d y.dx]]) (λi=>i<=x.t.fs.length/\q=A3O x c (x.t.fs.drop i)) (λi=>x.t.fs.length-i) 0 rfl rfl rfl rfl (λ_ _=>⟨rfl,rfl⟩) rfl ⟨by omega,hq⟩ ?_
 repeat' first|refine st ?_|refine⟨λ_=>?_,λ_=>?_⟩|fail
 intro i ⟨h4,h5⟩
 cases hy:x.t.fs[i]? with
 |some f=>
  have hlt:=(A7.1 hy).1
  have hg:=A2V hy
  have hR:=hR f (B9 hy)
  rw[D4H hy] at h5
  obtain⟨v,hv⟩:∃v,v=frR x c f:=⟨_,rfl⟩
  rw[<- hv] at hR h5
  clear hv
  have hg:(G5 x.t.fs)[i]?=some [Fo.d f,.str f.tb]:=hg
  by_cases q5:v=0
  ·rw[if_pos q5] at h5
   subst q5
   repeat' first|refine st ?_|refine⟨λ_=>?_,λ_=>?_⟩|fail
   exact⟨i+1,rfl,rfl,rfl,by omega,by omega,h5⟩
  ·rw[if_neg q5] at h5
   subst h5
   repeat' first|refine st ?_|refine⟨λ_=>?_,λ_=>?_⟩|fail
   all_goals rfl
 |none=>
  have hge:=C8.1 hy
  rw[S1 hge] at h5
  have h5:q=0:=h5
  subst h5
  repeat' first|refine st ?_|refine⟨λ_=>?_,λ_=>?_⟩|fail
  all_goals rfl
def x5(c:List En)(e:En):Int:=
 if Y1 c e.tm=0 then (if M7 e.ch=true then crR c e else if zeB e.cr.t=false then 8 else if rhB (E5 D5 e.tb c)=false then 11 else if 64<=(T8 (E5 D5 e.tb c)).length then 5 else C7 ((s9 (E5 D5 e.tb c)).runsR (T8 (E5 D5 e.tb c))).1.t e.ch) else Y1 c e.tm
theorem C4i(c:List En)(hc:c.length<=1048575)(hok:∀e∈c,e.ok)(d:D)(hd:B3 d (D3 c))(e:En)(he:e.ok) :
  Pure Tryz.prog B0c [.d d,e.av] (.d (eI (x5 c e))):=by
 have hC:=A9D e
 have hZ:=C4n e.cr he.cr
 have hK:=C4k c hc hok d hd e he
 have hH:=A9E c (by omega) d hd D5 e.tb
 have hsl:=A4X D5 e.tb c
 have hso:=A3b (at':=D5) (nm:=e.tb) hok
 obtain⟨q,hq⟩:∃q,q=x5 c e:=⟨_,rfl⟩
 rw[<- hq]
 unfold x5 at hq
 obtain⟨s,hs⟩:∃s,s=E5 D5 e.tb c:=⟨_,rfl⟩
 rw[<- hs] at hH hsl hso hq
 have hcl:=C1z s
 have hcl2:=A1d (T8 s)
 have hR:=A9B (s9 s) (A93 hso) (T8 s) (by omega) (A92 hso) (.sl (I3 (T8 s))) (.inr rfl)
 have hyo:=(A97 (l:=T8 s) (A93 hso) (A92 hso)).tok
 have hE:=A7p _ _ _ _ _ hyo e.ch he.ch
 obtain⟨T,hT⟩:∃T,T=s9 s:=⟨_,rfl⟩
 rw[<- hT] at hH hR hq hE hyo
 obtain⟨es2,hes2⟩:∃z,z=I3 (T8 s):=⟨_,rfl⟩
 rw[<- hes2] at hH hR hcl2
 obtain⟨⟨y,n,ye⟩,hy⟩:∃z,z=T.runsR (T8 s):=⟨_,rfl⟩
 rw[<- hy] at hR hq hE hyo
 dsimp only at hR hq hE hyo
 obtain⟨b,hb⟩:∃b,b=rhB s:=⟨_,rfl⟩
 rw[<- hb] at hH hq
 clear hs hT hy hso hes2 hb
 rw[<- hcl2] at hq
 obtain⟨z,hz⟩:∃z,z=Y1 c e.tm:=⟨_,rfl⟩
 rw[<- hz] at hq
 obtain⟨w1,g1⟩:∃v,v=M7 e.ch:=⟨_,rfl⟩
 obtain⟨w2,g2⟩:∃v,v=zeB e.cr.t:=⟨_,rfl⟩
 obtain⟨w3,g3⟩:∃v,v=crR c e:=⟨_,rfl⟩
 obtain⟨w4,g4⟩:∃v,v=C7 y.t e.ch:=⟨_,rfl⟩
 rw[<- g1] at hC hq
 rw[<- g2] at hZ hq
 rw[<- g3] at hK hq
 rw[<- g4] at hE hq
 clear g1 g2 g3 g4 he
 have h1:=Z4 c
 have hm:=w9 c
 have hg0:=λi e=>@A2i c i e
 obtain⟨es,hes⟩:∃es,es=D3 c:=⟨_,rfl⟩
 rw[<- hes] at h1 hm hg0 hd
 clear hes
 obtain⟨tm,tb,⟨⟨nm,cs,ks,fs,xs⟩,dc,dk,df,dx⟩,⟨k,cnm,to,⟨cn,ck,cl⟩,⟨vk,vn,vs⟩⟩⟩:=e
 dsimp only at hC hZ hK hH hE hq hz ⊢
 obtain⟨⟨Tn,Tc,Tk,Tf,Tx⟩,Tdc,Tdk,Tdf,Tdx⟩:=T
 obtain⟨yt,ydc,ydk,ydf,ydx⟩:=y
 have hR:Bi.Pure Tryz.prog A4l [eT Tn Tdc Tdk Tdf Tdx,.d (.sl es2)] (.tup [eT yt.nm ydc ydk ydf ydx,.d (eI n),.d (eI ye)]):=hR
 have hE:Bi.Pure Tryz.prog B08 [eT yt.nm ydc ydk ydf ydx,.agg [.d (eI k),.d (.str cnm),.d (.str to),.d (.str cn),.d (eI ck),.d (.bool cl),.d (eI vk),.d (eI vn),.d (.str vs)]] (.d (eI w4)):=hE
 have hH:Bi.Pure Tryz.prog A7R [.d d,.d (eI D5),.d (.str tb)] (.tup [eT Tn Tdc Tdk Tdf Tdx,.d (.sl es2),.d (.bool b)]):=hH
 unfold Y1 at hz
 by_cases g1:tm<0
 ·rw[if_pos (.inl g1)] at hz
  subst hz
  rw[if_neg (by decide)] at hq
  subst hq
  refine A01.go A4 rfl ?_
  repeat' first|refine st ?_|refine⟨λ_=>?_,λ_=>?_⟩|fail
  all_goals rfl
 by_cases g2:1099511627776<=tm
 ·rw[if_pos (.inr g2)] at hz
  subst hz
  rw[if_neg (by decide)] at hq
  subst hq
  refine A01.go A4 rfl ?_
  repeat' first|refine st ?_|refine⟨λ_=>?_,λ_=>?_⟩|fail
  all_goals rfl
 rw[if_neg (by omega)] at hz
 cases hx:c[c.length-1]? with
 |none=>
  rw[hx] at hz
  have hge:=C8.1 hx
  have h0:es.length=0:=by omega
  dsimp only at hz
  subst hz
  rw[if_pos rfl] at hq
  clear hx
  cases w1 with
  |true=>
   rw[if_pos rfl] at hq
   subst hq
   refine A01.go A4 rfl ?_
   repeat' first|refine st ?_|refine⟨λ_=>?_,λ_=>?_⟩|fail
   all_goals first|rfl|(exfalso;omega)
  |false=>
   rw[if_neg (by decide)] at hq
   cases w2 with
   |false=>
    rw[if_pos rfl] at hq
    subst hq
    refine A01.go A4 rfl ?_
    repeat' first|refine st ?_|refine⟨λ_=>?_,λ_=>?_⟩|fail
    all_goals first|rfl|(exfalso;omega)
   |true=>
    rw[if_neg (by decide)] at hq
    cases b with
    |false=>
     rw[if_pos rfl] at hq
     subst hq
     refine A01.go A4 rfl ?_
     repeat' first|refine st ?_|refine⟨λ_=>?_,λ_=>?_⟩|fail
     all_goals first|rfl|(exfalso;omega)
    |true=>
     rw[if_neg (by decide)] at hq
     by_cases q1:64<=es2.length
     ·rw[if_pos q1] at hq
      subst hq
      have q2:(64:Int)<=es2.length:=by omega
      refine A01.go A4 rfl ?_
      repeat' first|refine st ?_|refine⟨λ_=>?_,λ_=>?_⟩|fail
      all_goals first|rfl|(exfalso;omega)
     ·rw[if_neg q1] at hq
      subst hq
      have q2:¬(64:Int)<=es2.length:=by omega
      refine A01.go A4 rfl ?_
      repeat' first|refine st ?_|refine⟨λ_=>?_,λ_=>?_⟩|fail
      all_goals first|rfl|(exfalso;omega)
 |some e=>
  rw[hx] at hz
  dsimp only at hz
  have hlt:=(A7.1 hx).1
  have hg:es[((es.length:Int)-1).toNat]?=some e.ds:=by rw[show((es.length:Int)-1).toNat=c.length-1 by omega];exact hg0 _ e hx
  have hl:0<es.length:=by omega
  obtain⟨tm',tb',⟨⟨nm',cs',ks',fs',xs'⟩,dc',dk',df',dx'⟩,⟨k',cnm',to',⟨cn',ck',cl'⟩,⟨vk',vn',vs'⟩⟩⟩:=e
  dsimp only at hz
  clear hx
  by_cases g3:tm<tm'
  ·rw[if_pos g3] at hz
   subst hz
   rw[if_neg (by decide)] at hq
   subst hq
   refine A01.go A4 rfl ?_
   repeat' first|refine st ?_|refine⟨λ_=>?_,λ_=>?_⟩|fail
   all_goals rfl
  rw[if_neg g3] at hz
  subst hz
  rw[if_pos rfl] at hq
  cases w1 with
  |true=>
   rw[if_pos rfl] at hq
   subst hq
   refine A01.go A4 rfl ?_
   repeat' first|refine st ?_|refine⟨λ_=>?_,λ_=>?_⟩|fail
   all_goals first|rfl|(exfalso;omega)
  |false=>
   rw[if_neg (by decide)] at hq
   cases w2 with
   |false=>
    rw[if_pos rfl] at hq
    subst hq
    refine A01.go A4 rfl ?_
    repeat' first|refine st ?_|refine⟨λ_=>?_,λ_=>?_⟩|fail
    all_goals first|rfl|(exfalso;omega)
   |true=>
    rw[if_neg (by decide)] at hq
    cases b with
    |false=>
     rw[if_pos rfl] at hq
     subst hq
     refine A01.go A4 rfl ?_
     repeat' first|refine st ?_|refine⟨λ_=>?_,λ_=>?_⟩|fail
     all_goals first|rfl|(exfalso;omega)
    |true=>
     rw[if_neg (by decide)] at hq
     by_cases q1:64<=es2.length
     ·rw[if_pos q1] at hq
      subst hq
      have q2:(64:Int)<=es2.length:=by omega
      refine A01.go A4 rfl ?_
      repeat' first|refine st ?_|refine⟨λ_=>?_,λ_=>?_⟩|fail
      all_goals first|rfl|(exfalso;omega)
     ·rw[if_neg q1] at hq
      subst hq
      have q2:¬(64:Int)<=es2.length:=by omega
      refine A01.go A4 rfl ?_
      repeat' first|refine st ?_|refine⟨λ_=>?_,λ_=>?_⟩|fail
      all_goals first|rfl|(exfalso;omega)
theorem C4g(c:List En)(hc:c.length<=1048575)(hok:∀e∈c,e.ok)(d:D)(hd:B3 d (D3 c)) :
  Pure Tryz.prog B75 [.d d] (.d (eI (o7 x5 [] c))):=by
 have h1:=Z4 c
 have hm:=w9 c
 have hg0:=λi e=>@A2i c i e
 have hK:∀(i:Nat) (e:En),e.ok->∀d',B3 d' ((D3 c).take i)->Bi.Pure Tryz.prog B0c [.d d',e.av] (.d (eI (x5 (c.take i) e))):=λi e he d' hd'=>by
  rw[D3V] at hd'
  exact C4i (c.take i) (by rw[J1];omega) (λx hx=>hok x (Z1 hx)) d' hd' e he
 obtain⟨es,hes⟩:∃es,es=D3 c:=⟨_,rfl⟩
 rw[<- hes] at h1 hm hg0 hd hK
 clear hes
 obtain⟨q,hq⟩:∃q,q=o7 x5 [] c:=⟨_,rfl⟩
 rw[<- hq]
 refine C5K.go A4 rfl ?_
 repeat' first|refine st ?_|refine⟨λ_=>?_,λ_=>?_⟩|fail
 refine F2 A4 C8W C7O (λ(i:Nat)=>[.d (eI i)]) (λi=>[]) (λi=>i<=c.length/\q=o7 x5 (c.take i) (c.drop i)) (λi=>c.length-i) 0 rfl rfl rfl rfl (λ_ _=>⟨rfl,rfl⟩) rfl ⟨by omega,hq⟩ ?_
 repeat' first|refine st ?_|refine⟨λ_=>?_,λ_=>?_⟩|fail
 intro i ⟨g1,g2⟩
 cases hx:c[i]? with
 |some e=>
  have hlt:=(A7.1 hx).1
  have hg:es[((i:Nat):Int).toNat]?=some e.ds:=hg0 i e hx
  have hil:(i:Int)<es.length:=by omega
  rw[D38 hx] at g2
  rcases hd with ⟨rfl,hnil⟩|rfl
  ·exact absurd hil (by rw[hnil];simp)
  have hE:=hK i e (hok e (B9 hx)) (.sl ((es.drop (0:Int).toNat).take ((i:Int).toNat-(0:Int).toNat))) J7
  obtain⟨v,hv⟩:∃v,v=x5 (c.take i) e:=⟨_,rfl⟩
  rw[<- hv] at hE g2
  clear hv hK
  obtain⟨tm,tb,⟨⟨nm,cs,ks,fs,xs⟩,dc,dk,df,dx⟩,⟨k,cnm,to,⟨cn,ck,cl⟩,⟨vk,vn,vs⟩⟩⟩:=e
  by_cases q1:v=0
  ·rw[if_pos q1] at g2
   subst q1
   repeat' first|refine st ?_|refine⟨λ_=>?_,λ_=>?_⟩|fail
   exact⟨i+1,rfl,rfl,rfl,by omega,by omega,g2⟩
  ·rw[if_neg q1] at g2
   subst g2
   repeat' first|refine st ?_|refine⟨λ_=>?_,λ_=>?_⟩|fail
   all_goals rfl
 |none=>
  have hge:=C8.1 hx
  have hil:(es.length:Int)<=i:=by omega
  rw[S1 hge] at g2
  have g2:q=0:=g2
  subst g2
  repeat' first|refine st ?_|refine⟨λ_=>?_,λ_=>?_⟩|fail
  all_goals rfl
def A4d(nm:List UInt8):List En->Prop
 |[]=>True
 |e::r=>M7 e.ch=true/\e.cr.t.nm=nm/\H9 e.cr.t=0/\(∀x∈r,M7 x.ch=false)/\(e.cr.runs (r.map En.ch)).2.2=0
structure l5(c:List En):Prop where
 sel:∀nm,A4d nm (E5 D5 nm c)
 tm:∀e∈c,0<=e.tm/\e.tm<D5
 so:c.Pairwise λa b=>a.tm<=b.tm
theorem C1A:∀(r:List En)(t:TD),(∀x∈r,M7 x.ch=false)->r.foldl (λt e=>if M7 e.ch then e.cr else t) t=t
 |[],t,_=>rfl
 |e::r,t,h=>by
  rw[A2J,h e (by simp)]
  exact C1A r t λx hx=>h x (by simp[hx])
theorem A6n{nm:List UInt8}{e:En}{r:List En}(h:A4d nm (e::r)):A31 (e::r)=true/\A1j (e::r)=e.cr/\V0 (e::r)=r.map En.ch/\s9 (e::r)=e.cr/\T8 (e::r)=r.map En.ch/\rhB (e::r)=true:=by
 obtain⟨h1,h2,h3,h4,h5⟩:=h
 refine⟨h1,?_,?_,?_,?_,?_⟩
 ·show(if M7 e.ch then e.cr else O1)=e.cr
  rw[if_pos h1]
 ·unfold V0;rw[if_pos (show A31 (e::r)=true from h1)];rfl
 ·unfold s9;rw[A2J,h1];exact C1A r e.cr h4
 ·unfold T8
  rw[List.filter_cons,h1]
  simp only[Bool.not_true,L8,if_false]
  rw[List.filter_eq_self.2 λx hx=>by rw[h4 x hx];rfl]
 ·unfold rhB;rw[List.any_cons,h1];rfl
theorem B1y{nm:List UInt8}{e:En}{r:List En}(h:A4d nm (e::r)):P0 (e::r)=((e.cr.runs (r.map En.ch)).1,r.length,true):=by
 obtain⟨a1,a2,a3,a4,a5,a6⟩:=A6n h
 obtain⟨h1,h2,h3,h4,h5⟩:=h
 have hn:(e.cr.runs (r.map En.ch)).2.1=r.length:=by
  unfold TD.runs at h5 ⊢
  rw[if_pos h3] at h5 ⊢
  rw[(A70 _ _ _ (TD.cp_vd h3) h5).2,C6];omega
 unfold P0
 rw[if_pos a1,a2,a3,hn,h5]
 rfl
theorem B9X{nm:List UInt8}{e:En}{r:List En}(h:A4d nm (e::r)):Z3 (e::r)=((e.cr.runsR (r.map En.ch)).1,r.length,0):=by
 obtain⟨a1,a2,a3,a4,a5,a6⟩:=A6n h
 obtain⟨h1,h2,h3,h4,h5⟩:=h
 have hn:(e.cr.runsR (r.map En.ch)).2.1=r.length:=by
  rw[<- (A3V e.cr (r.map En.ch)).1]
  unfold TD.runs at h5 ⊢
  rw[if_pos h3] at h5 ⊢
  rw[(A70 _ _ _ (TD.cp_vd h3) h5).2,C6];omega
 unfold Z3
 rw[if_pos a6,a4,a5,hn]
theorem C0M{a b:Tb}(h:nf a=nf b):a.nm=b.nm/\a.cs=b.cs/\a.ks=b.ks:=by
 obtain⟨_,_,_,_,_⟩:=a
 obtain⟨_,_,_,_,_⟩:=b
 injection h with h1 h2 h3
 exact⟨h1,h2,h3⟩
theorem D6D{x:TD}{c:List En}(h:l5 c)(nm:List UInt8):(A0L x c nm).2=(A2q x c nm).2/\(A0L x c nm).1.t.cs=(A2q x c nm).1.t.cs/\(A0L x c nm).1.t.ks=(A2q x c nm).1.t.ks:=by
 unfold A0L A2q
 by_cases hn:nm=x.t.nm
 ·rw[if_pos hn,if_pos hn];exact⟨rfl,rfl,rfl⟩
 ·rw[if_neg hn,if_neg hn]
  have hs:=h.sel nm
  cases hq:E5 D5 nm c with
  |nil=>exact⟨rfl,rfl,rfl⟩
  |cons e r=>
   rw[hq] at hs
   rw[B1y hs,B9X hs]
   obtain⟨_,b2,b3⟩:=C0M (A3V e.cr (r.map En.ch)).2
   exact⟨rfl,b2,b3⟩
theorem D4E{x:TD}{c:List En}(h:l5 c)(f:Fo):frE x c f=frR x c f:=by
 obtain⟨h1,h2,h3⟩:=D6D (x:=x) h f.tb
 unfold frE frR
 rw[h1,h2,h3]
theorem B9S{x:TD}{c:List En}(h:l5 c):∀l:List Fo,A3N x c l=A3O x c l
 |[]=>rfl
 |f::r=>by
  unfold A3N A3O
  rw[D4E h,B9S h r]
theorem B93{c:List En}(h:l5 c)(nm:List UInt8):nm∈Q1 D5 c↔E5 D5 nm c≠[]:=by
 constructor
 ·intro hm
  unfold Q1 at hm
  obtain⟨e,he,rfl⟩:=D9.1 hm
  obtain⟨he,_⟩:=v6.1 he
  obtain⟨he,h2⟩:=v6.1 he
  refine List.ne_nil_of_mem (a:=e) (v6.2 ⟨he,?_⟩)
  unfold V9
  unfold erB at h2
  rw[h2];simp
 ·intro hne
  have hs:=h.sel nm
  cases hq:E5 D5 nm c with
  |nil=>exact absurd hq hne
  |cons e r=>
   rw[hq] at hs
   have hm:e∈E5 D5 nm c:=by rw[hq];simp
   obtain⟨h1,h2⟩:=v6.1 hm
   unfold V9 at h2
   rw[L6] at h2
   have h3:=of_decide_eq_true h2.2
   rw[<- h3]
   exact D9.2 ⟨e,v6.2 ⟨v6.2 ⟨h1,h2.1⟩,hs.1⟩,rfl⟩
theorem B8p{c:List En}(h:l5 c)(nm:List UInt8):(Z3 (E5 D5 nm c)).2.2=0↔nm∈Q1 D5 c:=by
 rw[B93 h]
 have hs:=h.sel nm
 cases hq:E5 D5 nm c with
 |nil=>exact⟨λh=>absurd h (by decide),λh=>absurd rfl h⟩
 |cons e r=>
  rw[hq] at hs
  rw[B9X hs]
  exact⟨λ_=>by simp,λ_=>rfl⟩
theorem B2g(l:List (List UInt8))(nm:List UInt8):(W4 l).contains nm=true↔nm∈l:=by
 rw[List.contains_iff_mem]
 exact(C1W l).mem_iff
theorem D41{c:List En}(h:l5 c)(e:En):A09 c e=x5 c e:=by
 unfold A09 x5
 by_cases h0:Y1 c e.tm=0
 rotate_left
 ·rw[if_neg h0,if_neg h0]
 rw[if_pos h0,if_pos h0]
 cases hb:M7 e.ch with
 |false=>
  rw[if_pos rfl,if_neg (show ¬(false=true) by decide)]
  cases hz:zeB e.cr.t with
  |false=>rw[if_pos rfl,if_pos rfl]
  |true=>
   rw[if_neg (by decide),if_neg (by decide)]
   unfold alE
   rw[if_neg (by rw[h0];decide)]
   have hs:=h.sel e.tb
   cases hq:E5 D5 e.tb c with
   |nil=>rfl
   |cons e0 r=>
    rw[hq] at hs
    obtain⟨a1,a2,a3,a4,a5,a6⟩:=A6n hs
    rw[B1y hs,a6,a5,a4]
    dsimp only
    rw[if_neg (show ¬(true=false) by decide),if_neg (show ¬(true=false) by decide),C6]
    rw[show C7 (e0.cr.runs (r.map En.ch)).1.t e.ch=C7 (e0.cr.runsR (r.map En.ch)).1.t e.ch by rw[<- A2Z,(A3V _ _).2,A2Z]]
 |true=>
  rw[if_neg (by decide),if_pos rfl]
  unfold o9 crR
  rw[if_pos h0]
  by_cases hn:e.tb=e.cr.t.nm
  rotate_left
  ·rw[if_neg hn,if_neg hn]
  rw[if_pos hn,if_pos hn,B9S h]
  by_cases hm:e.cr.t.nm∈Q1 D5 c
  ·rw[if_pos ((B2g _ _).2 hm),if_pos ((B8p h _).2 hm)]
  ·rw[if_neg λhh=>hm ((B2g _ _).1 hh),if_neg λhh=>hm ((B8p h _).1 hh)]
theorem C1L:∀(l:List Ch)(x:TD)(i:Nat)(c:Ch),(TD.run x i l).2.2=0->C7 (TD.run x i l).1.t c=0->(TD.run x i (l++[c])).2.2=0
 |[],x,i,c,_,h=>by
  show(TD.run x i [c]).2.2=0
  have h:C7 x.t c=0:=h
  unfold TD.run
  rw[if_pos h]
  rfl
 |a::l,x,i,c,h1,h2=>by
  show(TD.run x i (a::(l++[c]))).2.2=0
  unfold TD.run at h1 h2 ⊢
  by_cases hq:C7 x.t a=0
  ·rw[if_pos hq] at h1 h2 ⊢
   exact C1L l _ _ c h1 h2
  ·rw[if_neg hq] at h1
   exact absurd h1 hq
theorem D7d(at':Int)(nm:List UInt8)(c:List En)(e:En):E5 at' nm (c++[e])=E5 at' nm c++if V9 at' nm e then [e] else []:=by
 unfold E5
 rw[A3p,List.filter_cons]
 cases V9 at' nm e<;>rfl
theorem C0a{c:List En}(h:l5 c){e:En}(he:A09 c e=0):l5 (c++[e]):=by
 unfold A09 at he
 by_cases h0:Y1 c e.tm=0
 rotate_left
 ·rw[if_neg h0] at he;exact absurd he h0
 rw[if_pos h0] at he
 have ht:0<=e.tm/\e.tm<D5:=by
  unfold Y1 at h0
  by_cases g:e.tm<0\/1099511627776<=e.tm
  ·rw[if_pos g] at h0;exact absurd h0 (by decide)
  ·unfold D5;omega
 have hl:∀a∈c,a.tm<=e.tm:=by
  intro a ha
  unfold Y1 at h0
  rw[if_neg (by unfold D5 at ht;omega)] at h0
  obtain⟨i,hi⟩:=A1t.1 ha
  have hlt:=(A7.1 hi).1
  have hx:c[c.length-1]?=some (c[c.length-1]'(by omega)):=C3 (by omega)
  rw[hx] at h0
  dsimp only at h0
  have h1:¬e.tm<(c[c.length-1]'(by omega)).tm:=λg=>by rw[if_pos g] at h0;exact absurd h0 (by decide)
  by_cases hi2:i=c.length-1
  ·subst hi2
   rw[hx] at hi
   injection hi with hi
   rw[<- hi];omega
  ·have hp:=List.pairwise_iff_getElem.1 h.so i (c.length-1) hlt (by omega) (by omega)
   rw[C3 hlt] at hi
   injection hi with hi
   rw[hi] at hp
   omega
 refine⟨λnm=>?_,λa ha=>?_,?_⟩
 ·rw[D7d]
  cases hnb:V9 D5 nm e with
  |false=>
   rw[if_neg (by decide),u7]
   exact h.sel nm
  |true=>
   rw[if_pos rfl]
   unfold V9 at hnb
   rw[L6] at hnb
   have htb:=of_decide_eq_true hnb.2
   subst htb
   have hs:=h.sel e.tb
   cases hb:M7 e.ch with
   |false=>
    rw[hb,if_pos rfl] at he
    cases hz:zeB e.cr.t with
    |false=>rw[hz,if_pos rfl] at he;exact absurd he (by decide)
    |true=>
     rw[hz,if_neg (by decide)] at he
     unfold alE at he
     rw[if_neg (by rw[h0];decide)] at he
     cases hq:E5 D5 e.tb c with
     |nil=>
      rw[hq] at he
      have he:(11:Int)=0:=he
      exact absurd he (by decide)
     |cons e0 r=>
      rw[hq] at hs he
      rw[B1y hs] at he
      dsimp only at he
      rw[if_neg (show ¬(true=false) by decide)] at he
      by_cases h64:(64:Nat)<=r.length
      ·rw[if_pos h64] at he;exact absurd he (by decide)
      rw[if_neg h64] at he
      obtain⟨a1,a2,a3,a4,a5⟩:=hs
      refine⟨a1,a2,a3,λx hx=>?_,?_⟩
      ·rcases P4.1 hx with hx|hx
       ·exact a4 x hx
       ·rw[i7.1 hx];exact hb
      ·show(e0.cr.runs ((r++[e]).map En.ch)).2.2=0
       rw[A0s]
       unfold TD.runs at a5 he ⊢
       rw[if_pos a3] at a5 he ⊢
       exact C1L _ _ _ _ a5 he
   |true=>
    rw[hb,if_neg (by decide)] at he
    by_cases hn:e.tb=e.cr.t.nm
    rotate_left
    ·rw[if_neg hn] at he;exact absurd he (by decide)
    rw[if_pos hn] at he
    unfold o9 at he
    rw[if_pos h0] at he
    by_cases hv:H9 e.cr.t=0
    rotate_left
    ·rw[if_neg hv] at he;exact absurd he hv
    rw[if_pos hv] at he
    by_cases h16:16<=(Q1 D5 c).length
    ·rw[if_pos h16] at he;exact absurd he (by decide)
    rw[if_neg h16] at he
    by_cases hm:e.cr.t.nm∈Q1 D5 c
    ·rw[if_pos ((B2g _ _).2 hm)] at he;exact absurd he (by decide)
    cases hq:E5 D5 e.tb c with
    |nil=>
     refine⟨hb,hn.symm,hv,λx hx=>absurd hx (by simp),?_⟩
     show(e.cr.runs []).2.2=0
     unfold TD.runs
     rw[if_pos hv]
     rfl
    |cons e0 r=>
     rw[<- hn] at hm
     exact absurd ((B93 h _).2 (by rw[hq];simp)) hm
 ·rcases P4.1 ha with ha|ha
  ·exact h.tm a ha
  ·rw[i7.1 ha];exact ht
 ·rw[List.pairwise_append]
  exact⟨h.so,List.pairwise_singleton _ _,λa ha b hb=>by rw[i7.1 hb];exact hl a ha⟩
theorem C09:l5 []:=⟨λ_=>trivial,λe he=>absurd he (by simp),List.Pairwise.nil⟩
theorem B8O:∀(l c:List En),l5 c->o7 A09 c l=o7 x5 c l
 |[],c,h=>rfl
 |e::r,c,h=>by
  unfold o7
  rw[<- D41 h e]
  by_cases h0:A09 c e=0
  ·rw[if_pos h0,if_pos h0]
   exact B8O r _ (C0a h h0)
  ·rw[if_neg h0,if_neg h0]
theorem B8P:∀(l c:List En),l5 c->o7 A09 c l=0->l5 (c++l)
 |[],c,h,_=>by rw[u7];exact h
 |e::r,c,h,hc=>by
  unfold o7 at hc
  by_cases h0:A09 c e=0
  ·rw[if_pos h0] at hc
   have:=B8P r _ (C0a h h0) hc
   rwa [List.append_assoc] at this
  ·rw[if_neg h0] at hc
   exact absurd hc h0
theorem D3b(c:List En):o7 A09 [] c=o7 x5 [] c:=B8O c [] C09
def En.cpR(e:En):En:=⟨e.tm,e.tb,e.cr.cpR,e.ch⟩
theorem En.cpR_ok{e:En}(h:e.ok):e.cpR.ok:=⟨TD.cpR_ok h.cr,h.ch,h.tb⟩
def kCh(k:Int):Ch:=⟨k,[],[],⟨[],0,false⟩,⟨0,0,[]⟩⟩
def A3H(at':Int)(x:TD):En:=⟨at',x.t.nm,x,kCh 0⟩
def A5P(at':Int)(nm:List UInt8)(ch:Ch):En:=⟨at',nm,O1,ch⟩
theorem D4Z(k:Int):H6 (kCh k):=⟨R1 _,R1 _,R1 _,R1 _⟩
theorem B92{at':Int}{x:TD}(h:x.ok):(A3H at' x).ok:=⟨h,D4Z 0,h.tok.hn⟩
theorem B8g{at':Int}{nm:List UInt8}{ch:Ch}(h:H6 ch)(hn:nm.length<=1048576):(A5P at' nm ch).ok:=⟨A1r,h,hn⟩
theorem C3b(l:List (List D))(hl:l.length<=1048577)(hm:∀e∈l,e.length=16)(d:D)(hd:B3 d l):B0 Tryz.prog B7L [.d d] [] (λr os=>r=.arr 0 l.length/\os=[.arr l 16 0 (A5 d)]):=by
 rcases hd with ⟨rfl,rfl⟩|rfl
 ·refine B0.own_nil 16 (by decide) ?_
  refine B3x.go A4 rfl ?_
  repeat' first|refine st ?_|((with_reducible apply C4);conv=>whnf)|refine⟨λ_=>?_,λ_=>?_⟩|fail
 ·refine B3x.goO A4 rfl ?_
  have h0:([]:List (List D)).length=0:=rfl
  have h00:(([]:List (List D))++l).length=l.length:=rfl
  have hb:(([]:List (List D)).length+l.length)*240<=140737488355328/\([]:List (List D)).length+l.length<=9223372036854775807:=by rw[h0];omega
  repeat' first|refine st ?_|((with_reducible apply C4);conv=>whnf)|refine⟨λ_=>?_,λ_=>?_⟩|fail
  all_goals (refine⟨rfl,?_⟩;cases l<;>rfl)
def En.cpP(e:En):En:=⟨e.tm,e.tb,e.cr.cp,e.ch⟩
theorem En.cpP_ok{e:En}(h:e.ok):e.cpP.ok:=⟨TD.cp_ok h.cr,h.ch,h.tb⟩
theorem B2H(c:List En)(hc:c.length<=1048575)(hok:∀e∈c,e.ok)(hf:∀e∈c,e.cr.t.fs.length<=4)(d:D)(hd:B3 d (D3 c))(e:En)(he:e.ok)(hef:e.cr.t.fs.length<=4) :
  Pure Tryz.prog B0g [.d d,e.av] (.d (.sl (D3 ((c++[e]).map En.cpP)))):=by
 have h1:=Z4 (c++[e])
 have hm:=w9 (c++[e])
 have hg0:=λi x=>@A2i (c++[e]) i x
 have hok':∀x∈c++[e],x.ok:=λx hx=>by
  rcases P4.1 hx with hx|hx
  ·exact hok x hx
  ·rw[i7.1 hx];exact he
 have hf':∀x∈c++[e],x.cr.t.fs.length<=4:=λx hx=>by
  rcases P4.1 hx with hx|hx
  ·exact hf x hx
  ·rw[i7.1 hx];exact hef
 have hK:=C3b (D3 c) (by rw[Z4];omega) (w9 c) d hd
 have hl0:=Z4 c
 have hm0:=w9 c
 have hs0:D3 (c++[e])=D3 c++[e.ds]:=by simp[D3]
 obtain⟨R,hR⟩:∃R,R=D3 ((c++[e]).map En.cpP):=⟨_,rfl⟩
 rw[<- hR]
 obtain⟨w,hw⟩:∃w,w=c++[e]:=⟨_,rfl⟩
 rw[<- hw] at h1 hm hg0 hR hok' hf' hs0
 have hwl:w.length=c.length+1:=by rw[hw];simp
 clear hok hf he hef hw
 obtain⟨es,hes⟩:∃es,es=D3 c:=⟨_,rfl⟩
 rw[<- hes] at hl0 hm0 hd hK hs0
 clear hes
 rw[hs0] at h1 hm hg0
 clear hs0
 obtain⟨tm,tb,⟨⟨nm,cs,ks,fs,xs⟩,dc,dk,df,dx⟩,⟨k,cnm,to,⟨cn,ck,cl⟩,⟨vk,vn,vs⟩⟩⟩:=e
 have hbd:(es.length+1)*240<=140737488355328:=by omega
 have h1:(es++[[eI tm,.str tb,.str nm,dc,dk,df,dx,eI k,.str cnm,.str to,.str cn,eI ck,.bool cl,eI vk,eI vn,.str vs]]).length=w.length:=h1
 have hm:∀x∈(es++[[eI tm,.str tb,.str nm,dc,dk,df,dx,eI k,.str cnm,.str to,.str cn,eI ck,.bool cl,eI vk,eI vn,.str vs]]),x.length=16:=hm
 have hg0:∀(i:Nat) (x:En),w[i]?=some x->(es++[[eI tm,.str tb,.str nm,dc,dk,df,dx,eI k,.str cnm,.str to,.str cn,eI ck,.bool cl,eI vk,eI vn,.str vs]])[i]?=some x.ds:=hg0
 show Bi.Pure Tryz.prog B0g [.d d,.agg [.d (eI tm),.d (.str tb),.d (.str nm),.d dc,.d dk,.d df,.d dx,.d (eI k),.d (.str cnm),.d (.str to),.d (.str cn),.d (eI ck),.d (.bool cl),.d (eI vk),.d (eI vn),.d (.str vs)]] (.d (.sl R))
 refine C5V.go A4 rfl ?_
 repeat' first|refine st ?_|((with_reducible apply C4);conv=>whnf)|refine⟨λ_=>?_,λ_=>?_⟩|fail
 refine A00 5 16 rfl rfl ?_
 refine I2 A4 C95 C7X (λ(i:Nat) (A:List (List D))=>[.arr 2 A.length,.d (eI i)]) (λi A=>[.cells [.d (eI tm),.d (.str tb),.d (.str nm),.d dc,.d dk,.d df,.d dx,.d (eI k),.d (.str cnm),.d (.str to),.d (.str cn),.d (eI ck),.d (.bool cl),.d (eI vk),.d (eI vn),.d (.str vs)],.arr (es++[[eI tm,.str tb,.str nm,dc,dk,df,dx,eI k,.str cnm,.str to,.str cn,eI ck,.bool cl,eI vk,eI vn,.str vs]]) 16 0 false,.arr A 16 0 A.isEmpty]) (λi A=>i<=w.length/\A=D3 ((w.take i).map En.cpP)) (λi A=>w.length-i) 0 [] rfl rfl rfl rfl (λ_ _ _=>⟨rfl,rfl⟩) rfl ⟨by omega,rfl⟩ ?_
 repeat' first|refine st ?_|((with_reducible apply C4);conv=>whnf)|refine⟨λ_=>?_,λ_=>?_⟩|fail
 intro i A ⟨g1,g2⟩
 have hAl:A.length<=i:=by
  rw[g2,Z4,C6,J1];omega
 have hAm:∀x∈A,x.length=16:=by rw[g2];exact w9 _
 have hbd:(A.length+1)*240<=140737488355328:=by omega
 cases hx:w[i]? with
 |some x=>
  have hlt:=(A7.1 hx).1
  have hg:(es++[[eI tm,.str tb,.str nm,dc,dk,df,dx,eI k,.str cnm,.str to,.str cn,eI ck,.bool cl,eI vk,eI vn,.str vs]])[((i:Nat):Int).toNat]?=some x.ds:=hg0 i x hx
  have hil:(i:Int)<(es++[[eI tm,.str tb,.str nm,dc,dk,df,dx,eI k,.str cnm,.str to,.str cn,eI ck,.bool cl,eI vk,eI vn,.str vs]]).length:=by omega
  have hmx:=B9 hx
  have hX:=A7m x.cr (hok' x hmx).cr (hf' x hmx)
  have hs:D3 ((w.take (i+1)).map En.cpP)=A++[x.cpP.ds]:=by
   rw[g2,P1,hx,A0s];simp[D3]
  unfold En.cpP at hs
  clear g2
  obtain⟨z,hz⟩:∃z,z=x.cr.cp:=⟨_,rfl⟩
  rw[<- hz] at hX hs
  clear hz hx hg0 hm hR
  obtain⟨xtm,xtb,⟨⟨xnm,xcs,xks,xfs,xxs⟩,xdc,xdk,xdf,xdx⟩,⟨xk,xcnm,xto,⟨xcn,xck,xcl⟩,⟨xvk,xvn,xvs⟩⟩⟩:=x
  obtain⟨⟨znm,zcs,zks,zfs,zxs⟩,zdc,zdk,zdf,zdx⟩:=z
  have hs:D3 ((w.take (i+1)).map En.cpP)=A++[[eI xtm,D.str xtb,.str znm,zdc,zdk,zdf,zdx,eI xk,.str xcnm,.str xto,.str xcn,eI xck,.bool xcl,eI xvk,eI xvn,.str xvs]]:=hs
  have hg:(es++[[eI tm,.str tb,.str nm,dc,dk,df,dx,eI k,.str cnm,.str to,.str cn,eI ck,.bool cl,eI vk,eI vn,.str vs]])[((i:Nat):Int).toNat]?=some [eI xtm,.str xtb,.str xnm,xdc,xdk,xdf,xdx,eI xk,.str xcnm,.str xto,.str xcn,eI xck,.bool xcl,eI xvk,eI xvn,.str xvs]:=hg
  have hX:Bi.Pure Tryz.prog A0Z [eT xnm xdc xdk xdf xdx] (eT znm zdc zdk zdf zdx):=hX
  have hne:(A++[[eI xtm,D.str xtb,.str znm,zdc,zdk,zdf,zdx,eI xk,.str xcnm,.str xto,.str xcn,eI xck,.bool xcl,eI xvk,eI xvn,.str xvs]]).isEmpty=false:=by simp
  repeat' first|refine st ?_|((with_reducible apply C4);conv=>whnf)|refine⟨λ_=>?_,λ_=>?_⟩|fail
  refine⟨i+1,_,?_,rfl,?_,by omega,by omega,hs.symm⟩
  ·simp
  ·rw[hne];rfl
 |none=>
  have hge:=C8.1 hx
  have hil:((es++[[eI tm,.str tb,.str nm,dc,dk,df,dx,eI k,.str cnm,.str to,.str cn,eI ck,.bool cl,eI vk,eI vn,.str vs]]).length:Int)<=i:=by omega
  rw[J5 hge,<- hR] at g2
  have hne:A.isEmpty=false:=by
   have:A.length=w.length:=by rw[g2,hR,Z4,C6]
   cases A with
   |nil=>simp at this;omega
   |cons a r=>rfl
  clear hR hg0 hx
  subst g2
  repeat' first|refine st ?_|((with_reducible apply C4);conv=>whnf)|refine⟨λ_=>?_,λ_=>?_⟩|fail
  all_goals first|(exfalso;omega)|(rw[hne];rfl)
theorem D45{c:List En}{e:En}(h:A09 c e=0):e.cr.t.fs.length<=4:=by
 unfold A09 at h
 by_cases h0:Y1 c e.tm=0
 rotate_left
 ·rw[if_neg h0] at h;exact absurd h h0
 rw[if_pos h0] at h
 cases hb:M7 e.ch with
 |false=>
  rw[hb,if_pos rfl] at h
  cases hz:zeB e.cr.t with
  |false=>rw[hz,if_pos rfl] at h;exact absurd h (by decide)
  |true=>
   unfold zeB at hz
   simp only[L6,u9] at hz
   rw[hz.2.2.2.1];decide
 |true=>
  rw[hb,if_neg (by decide)] at h
  by_cases hn:e.tb=e.cr.t.nm
  ·rw[if_pos hn] at h
   unfold o9 at h
   rw[if_pos h0] at h
   by_cases ht:H9 e.cr.t=0
   ·exact(V3.1 ht).fl
   ·rw[if_neg ht] at h;exact absurd h ht
  ·rw[if_neg hn] at h;exact absurd h (by decide)
theorem D44(c:List En)(at':Int)(x:TD):A09 c (A3H at' x)=o9 c at' x:=by
 unfold A09 A3H
 dsimp only
 rw[show M7 (kCh 0)=true from rfl,if_neg (show ¬(true=false) by decide),if_pos rfl]
 split
 ·rfl
 ·rename_i g
  unfold o9
  rw[if_neg g]
def wtP(c:List En)(e:En)(q:Int):D:=if q=0 then .sl (D3 ((c++[e]).map En.cpP)) else .nil
theorem B2D(c:List En)(hc:c.length<=1048575)(hok:∀e∈c,e.ok)(hf:∀e∈c,e.cr.t.fs.length<=4)(d:D)(hd:B3 d (D3 c))(at':Int)(x:TD)(hx:x.ok) :
  Pure Tryz.prog A4m [.d d,.d (eI at'),x.av] (.tup [.d (wtP c (A3H at' x) (o9 c at' x)),.d (eI (o9 c at' x))]):=by
 have hK:=C3a c (by omega) hok d hd at' x hx
 by_cases h0:o9 c at' x=0
 ·have hW:=B2H c hc hok hf d hd (A3H at' x) (B92 hx) (D45 ((D44 c at' x).trans h0))
  unfold wtP
  rw[h0] at hK ⊢
  rw[if_pos rfl]
  obtain⟨w,hw⟩:∃w,w=D3 ((c++[A3H at' x]).map En.cpP):=⟨_,rfl⟩
  rw[<- hw] at hW ⊢
  clear hw h0
  obtain⟨⟨nm,cs,ks,fs,xs⟩,dc,dk,df,dx⟩:=x
  refine B3j.go A4 rfl ?_
  repeat' first|refine st ?_|refine⟨λ_=>?_,λ_=>?_⟩|fail
  all_goals rfl
 ·unfold wtP
  rw[if_neg h0]
  obtain⟨q,hq⟩:∃q,q=o9 c at' x:=⟨_,rfl⟩
  rw[<- hq] at hK h0 ⊢
  clear hq
  obtain⟨⟨nm,cs,ks,fs,xs⟩,dc,dk,df,dx⟩:=x
  refine B3j.go A4 rfl ?_
  repeat' first|refine st ?_|refine⟨λ_=>?_,λ_=>?_⟩|fail
  all_goals rfl
theorem C36(c:List En)(hc:c.length<=1048575)(hok:∀e∈c,e.ok)(hf:∀e∈c,e.cr.t.fs.length<=4)(d:D)(hd:B3 d (D3 c))(at':Int)(nm:List UInt8)(hn:nm.length<=1048576)(ch:Ch)(hch:H6 ch) :
  Pure Tryz.prog A7S [.d d,.d (eI at'),.d (.str nm),ch.av] (.tup [.d (wtP c (A5P at' nm ch) (alE c at' nm ch)),.d (eI (alE c at' nm ch))]):=by
 have hK:=C39 c (by omega) hok d hd at' nm ch hch
 have hW:=B2H c hc hok hf d hd (A5P at' nm ch) (B8g hch hn) (show([]:List Fo).length<=4 by decide)
 unfold wtP
 obtain⟨w,hw⟩:∃w,w=D3 ((c++[A5P at' nm ch]).map En.cpP):=⟨_,rfl⟩
 rw[<- hw] at hW ⊢
 obtain⟨q,hq⟩:∃q,q=alE c at' nm ch:=⟨_,rfl⟩
 rw[<- hq] at hK ⊢
 clear hq hw
 obtain⟨k,cnm,to,⟨cn,ck,cl⟩,⟨vk,vn,vs⟩⟩:=ch
 by_cases h0:q=0
 ·subst h0
  rw[if_pos rfl]
  refine B3h.go A4 rfl ?_
  repeat' first|refine st ?_|refine⟨λ_=>?_,λ_=>?_⟩|fail
  all_goals rfl
 ·rw[if_neg h0]
  refine B3h.go A4 rfl ?_
  repeat' first|refine st ?_|refine⟨λ_=>?_,λ_=>?_⟩|fail
  all_goals rfl
theorem C2j{c:List En}{e:En}(h:∀x∈c,x.ok)(he:e.ok):∀x∈(c++[e]).map En.cpP,x.ok:=λx hx=>by
 obtain⟨y,hy,rfl⟩:=D9.1 hx
 rcases P4.1 hy with hy|hy
 ·exact En.cpP_ok (h y hy)
 ·rw[i7.1 hy];exact En.cpP_ok he
theorem C2i{c:List En}{e:En}(h:∀x∈c,x.cr.t.fs.length<=4)(he:e.cr.t.fs.length<=4):∀x∈(c++[e]).map En.cpP,x.cr.t.fs.length<=4:=λx hx=>by
 obtain⟨y,hy,rfl⟩:=D9.1 hx
 rcases P4.1 hy with hy|hy
 ·exact h y hy
 ·rw[i7.1 hy];exact he
def s6T:Tb:=⟨[116],[⟨[97],1,false⟩,⟨[98],1,false⟩],[0],[],[]⟩
def s6U:Tb:=⟨[117],[⟨[97],1,false⟩,⟨[98],1,false⟩],[0],[⟨false,[0,1],[116]⟩],[]⟩
def s6D:TD:=⟨s6T,.sl (A9 s6T.cs),.sl (A0 s6T.ks),.nil,.nil⟩
def s6V:TD:=⟨s6U,.sl (A9 s6U.cs),.sl (A0 s6U.ks),.sl (G5 s6U.fs),.nil⟩
def s6C:Ch:=⟨2,[98],[],⟨[],0,false⟩,⟨0,0,[]⟩⟩
theorem B2a:s6D.ok:=
 ⟨⟨by decide,by decide,by decide,by decide,by decide,λf hf=>by simp[s6D,s6T] at hf,by decide,λe he=>by simp[s6D,s6T] at he,J7,J7,A0i,A0i⟩,λe he=>by simp[s6D,s6T] at he⟩
theorem D7b:s6V.ok:=
 ⟨⟨by decide,by decide,by decide,by decide,by decide,λf hf=>by
  have hf:f=⟨false,[0,1],[116]⟩:=by simpa[s6V,s6U] using hf
  subst hf
  exact⟨by decide,by decide⟩,by decide,λe he=>by simp[s6V,s6U] at he,J7,J7,J7,A0i⟩,λe he=>by simp[s6V,s6U] at he⟩
theorem C1O:H6 s6C:=⟨by decide,by decide,by decide,by decide⟩
def c61:List En:=([]++[A3H 10 s6D]).map En.cpP
def X3:List En:=(c61++[A5P 20 [116] s6C]).map En.cpP
theorem e61:o9 [] 10 s6D=0:=by kernel_rfl
theorem e62:alE c61 20 [116] s6C=0:=by kernel_rfl
theorem e63:(P0 (E5 9 [116] X3)).2=(0,false):=by kernel_rfl
theorem e64:(P0 (E5 10 [116] X3)).2=(0,true):=by kernel_rfl
theorem e65:(P0 (E5 20 [116] X3)).2=(1,true):=by kernel_rfl
theorem e66:o9 X3 30 s6V=13:=by kernel_rfl
theorem C3E:Pure Tryz.prog B6A [] (.d (.bool true)):=by
 have o0:∀e∈([]:List En),e.ok:=λe he=>absurd he (by simp)
 have f0:∀e∈([]:List En),e.cr.t.fs.length<=4:=λe he=>absurd he (by simp)
 have o1:∀e∈c61,e.ok:=C2j o0 (B92 B2a)
 have f1:∀e∈c61,e.cr.t.fs.length<=4:=C2i f0 (by decide)
 have o2:∀e∈X3,e.ok:=C2j o1 (B8g C1O (by decide))
 have f2:∀e∈X3,e.cr.t.fs.length<=4:=C2i f1 (by decide)
 have l1:c61.length<=1048575:=by decide
 have l2:X3.length<=1048575:=by decide
 have h1:=B2D [] (by decide) o0 f0 .nil A0i 10 s6D B2a
 have h2:=C36 c61 l1 o1 f1 (.sl (D3 c61)) J7 20 [116] (by decide) s6C C1O
 have h3:=A9u X3 (by omega) o2 (.sl (D3 X3)) J7 9 [116]
 have h4:=A9u X3 (by omega) o2 (.sl (D3 X3)) J7 10 [116]
 have h5:=A9u X3 (by omega) o2 (.sl (D3 X3)) J7 20 [116]
 have h6:=A9A s6D B2a
 have h7:=B2D X3 l2 o2 f2 (.sl (D3 X3)) J7 30 s6V D7b
 rw[e61] at h1
 rw[e62] at h2
 rw[e63] at h3
 rw[e64] at h4
 rw[e65] at h5
 rw[e66] at h7
 have h1:Bi.Pure Tryz.prog A4m [.d .nil,.d (eI 10),s6D.av] (.tup [.d (.sl (D3 c61)),.d (eI 0)]):=h1
 have h2:Bi.Pure Tryz.prog A7S [.d (.sl (D3 c61)),.d (eI 20),.d (.str [116]),s6C.av] (.tup [.d (.sl (D3 X3)),.d (eI 0)]):=h2
 have h7:Bi.Pure Tryz.prog A4m [.d (.sl (D3 X3)),.d (eI 30),s6V.av] (.tup [.d .nil,.d (eI 13)]):=h7
 obtain⟨E1,q1⟩:∃E,E=D3 c61:=⟨_,rfl⟩
 obtain⟨E2,q2⟩:∃E,E=D3 X3:=⟨_,rfl⟩
 rw[<- q1] at h1 h2
 rw[<- q2] at h2 h3 h4 h5 h7
 clear q1 q2 o0 f0 o1 f1 o2 f2 l1 l2
 obtain⟨⟨⟨ynm,ycs,yks,yfs,yxs⟩,ydc,ydk,ydf,ydx⟩,hy⟩:∃y,y=(P0 (E5 10 [116] X3)).1:=⟨_,rfl⟩
 rw[<- hy] at h4
 obtain⟨⟨⟨znm,zcs,zks,zfs,zxs⟩,zdc,zdk,zdf,zdx⟩,hz⟩:∃y,y=(P0 (E5 20 [116] X3)).1:=⟨_,rfl⟩
 rw[<- hz] at h5
 clear hy hz
 refine C51.go A4 rfl ?_
 repeat' first|refine st ?_|refine⟨λ_=>?_,λ_=>?_⟩|fail
 all_goals rfl
end Go.Proofs
end
section
namespace Go.Proofs
open Go.Shelf
def Tryz.laysM171_ren:Go.Shelf.Ren:=⟨fun|171=>110|243=>142|246=>181|283=>207|284=>208|285=>209|286=>210|129=>171|317=>230|318=>231|319=>232|320=>233|337=>244|338=>245|n=>n,fun|3=>3|9=>9|2=>2|4=>4|171=>212|0=>0|53=>179|37=>189|5=>5|173=>214|212=>230|51=>177|20=>20|213=>231|46=>147|232=>244|233=>245|n=>n,fun|17=>0|18=>4|19=>5|n=>n⟩
theorem Tryz.laysM171:Go.Proofs.LaysM.n171 Tryz.prog Tryz.laysM171_ren:={
 mixed:=by kernel_rfl
 f129:=Tryz.func171.trans (congrArg some (by kernel_rfl))
 f171:=Tryz.func110.trans (congrArg some (by kernel_rfl))
 f243:=Tryz.func142.trans (congrArg some (by kernel_rfl))
 f246:=Tryz.func181.trans (congrArg some (by kernel_rfl))
 f283:=Tryz.func207.trans (congrArg some (by kernel_rfl))
 f284:=Tryz.func208.trans (congrArg some (by kernel_rfl))
 f285:=Tryz.func209.trans (congrArg some (by kernel_rfl))
 f286:=Tryz.func210.trans (congrArg some (by kernel_rfl))
 f317:=Tryz.func230.trans (congrArg some (by kernel_rfl))
 f318:=Tryz.func231.trans (congrArg some (by kernel_rfl))
 f319:=Tryz.func232.trans (congrArg some (by kernel_rfl))
 f320:=Tryz.func233.trans (congrArg some (by kernel_rfl))
 f337:=Tryz.func244.trans (congrArg some (by kernel_rfl))
 f338:=Tryz.func245.trans (congrArg some (by kernel_rfl))
 t0:=Tryz.underlying0
 a0:=Tryz.isAgg0
 z0:=Tryz.sizeOf0
 v0:=Tryz.zeroValue0
 t2:=Tryz.underlying2
 a2:=Tryz.isAgg2
 z2:=Tryz.sizeOf2
 v2:=Tryz.zeroValue2
 t3:=Tryz.underlying3
 a3:=Tryz.isAgg3
 z3:=Tryz.sizeOf3
 v3:=Tryz.zeroValue3
 t4:=Tryz.underlying4
 a4:=Tryz.isAgg4
 z4:=Tryz.sizeOf4
 v4:=Tryz.zeroValue4
 t5:=Tryz.underlying5
 a5:=Tryz.isAgg5
 z5:=Tryz.sizeOf5
 v5:=Tryz.zeroValue5
 t9:=Tryz.underlying9
 a9:=Tryz.isAgg9
 z9:=Tryz.sizeOf9
 v9:=Tryz.zeroValue9
 t20:=Tryz.underlying20
 a20:=Tryz.isAgg20
 z20:=Tryz.sizeOf20
 v20:=Tryz.zeroValue20
 t37:=Tryz.underlying189
 a37:=Tryz.isAgg189
 z37:=Tryz.sizeOf189
 v37:=Tryz.zeroValue189
 t46:=Tryz.underlying147
 a46:=Tryz.isAgg147
 z46:=Tryz.sizeOf147
 v46:=Tryz.zeroValue147
 t51:=Tryz.underlying177
 a51:=Tryz.isAgg177
 z51:=Tryz.sizeOf177
 v51:=Tryz.zeroValue177
 t53:=Tryz.underlying179
 a53:=Tryz.isAgg179
 z53:=Tryz.sizeOf179
 v53:=Tryz.zeroValue179
 t171:=Tryz.underlying212
 a171:=Tryz.isAgg212
 z171:=Tryz.sizeOf212
 v171:=Tryz.zeroValue212
 t173:=Tryz.underlying214
 a173:=Tryz.isAgg214
 z173:=Tryz.sizeOf214
 v173:=Tryz.zeroValue214
 t212:=Tryz.underlying230
 a212:=Tryz.isAgg230
 z212:=Tryz.sizeOf230
 v212:=Tryz.zeroValue230
 t213:=Tryz.underlying231
 a213:=Tryz.isAgg231
 z213:=Tryz.sizeOf231
 t232:=Tryz.underlying244
 a232:=Tryz.isAgg244
 z232:=Tryz.sizeOf244
 v232:=Tryz.zeroValue244
 t233:=Tryz.underlying245
 a233:=Tryz.isAgg245
 z233:=Tryz.sizeOf245
 v233:=Tryz.zeroValue245
 g17:=by kernel_rfl
 g18:=by kernel_rfl
 g19:=by kernel_rfl
 i0:=by kernel_rfl
 i2:=by kernel_rfl
 i3:=by kernel_rfl
 i4:=by kernel_rfl
 i5:=by kernel_rfl
 i9:=by kernel_rfl
 i20:=by kernel_rfl
 i37:=by kernel_rfl
 i46:=by kernel_rfl
 i51:=by kernel_rfl
 i53:=by kernel_rfl
 i171:=by kernel_rfl
 i173:=by kernel_rfl
 i212:=by kernel_rfl
 i232:=by kernel_rfl
 i233:=by kernel_rfl
 m17:=by kernel_rfl
 m18:=by kernel_rfl
 m19:=by kernel_rfl}
def Tryz.lays144_ren:Go.Shelf.Ren:=⟨fun|144=>146|143=>184|219=>215|217=>236|225=>237|224=>238|267=>239|266=>246|314=>247|n=>n,fun|9=>9|4=>4|3=>3|5=>5|46=>147|146=>241|51=>177|n=>n,fun|1=>1|n=>n⟩
theorem Tryz.lays144:Go.Proofs.Lays.n144 Tryz.prog Tryz.lays144_ren:={
 mixed:=by kernel_rfl
 f143:=Tryz.func184.trans (congrArg some (by kernel_rfl))
 f144:=Tryz.func146.trans (congrArg some (by kernel_rfl))
 f217:=Tryz.func236.trans (congrArg some (by kernel_rfl))
 f219:=Tryz.func215.trans (congrArg some (by kernel_rfl))
 f224:=Tryz.func238.trans (congrArg some (by kernel_rfl))
 f225:=Tryz.func237.trans (congrArg some (by kernel_rfl))
 f266:=Tryz.func246.trans (congrArg some (by kernel_rfl))
 f267:=Tryz.func239.trans (congrArg some (by kernel_rfl))
 f314:=Tryz.func247.trans (congrArg some (by kernel_rfl))
 t3:=Tryz.underlying3
 a3:=Tryz.isAgg3
 z3:=Tryz.sizeOf3
 v3:=Tryz.zeroValue3
 t4:=Tryz.underlying4
 a4:=Tryz.isAgg4
 z4:=Tryz.sizeOf4
 v4:=Tryz.zeroValue4
 t5:=Tryz.underlying5
 a5:=Tryz.isAgg5
 z5:=Tryz.sizeOf5
 v5:=Tryz.zeroValue5
 t9:=Tryz.underlying9
 a9:=Tryz.isAgg9
 z9:=Tryz.sizeOf9
 v9:=Tryz.zeroValue9
 t46:=Tryz.underlying147
 a46:=Tryz.isAgg147
 z46:=Tryz.sizeOf147
 v46:=Tryz.zeroValue147
 t51:=Tryz.underlying177
 a51:=Tryz.isAgg177
 z51:=Tryz.sizeOf177
 v51:=Tryz.zeroValue177
 t146:=Tryz.underlying241
 a146:=Tryz.isAgg241
 z146:=Tryz.sizeOf241
 v146:=Tryz.zeroValue241
 g1:=by kernel_rfl}
def Tryz.lays155_ren:Go.Shelf.Ren:=⟨fun|155=>111|154=>143|138=>182|165=>183|143=>184|166=>185|197=>186|169=>187|195=>211|218=>212|240=>213|241=>214|219=>215|260=>216|276=>234|277=>235|217=>236|225=>237|224=>238|267=>239|266=>246|314=>247|n=>n,fun|9=>9|3=>3|4=>4|72=>191|0=>0|76=>195|105=>197|21=>21|5=>5|70=>188|20=>20|37=>189|75=>194|127=>218|164=>232|46=>147|119=>235|139=>238|138=>237|146=>241|51=>177|80=>199|n=>n,fun|1=>1|3=>2|4=>3|n=>n⟩
theorem Tryz.lays155:Go.Proofs.Lays.n155 Tryz.prog Tryz.lays155_ren:={
 mixed:=by kernel_rfl
 f138:=Tryz.func182.trans (congrArg some (by kernel_rfl))
 f143:=Tryz.func184.trans (congrArg some (by kernel_rfl))
 f154:=Tryz.func143.trans (congrArg some (by kernel_rfl))
 f155:=Tryz.func111.trans (congrArg some (by kernel_rfl))
 f165:=Tryz.func183.trans (congrArg some (by kernel_rfl))
 f166:=Tryz.func185.trans (congrArg some (by kernel_rfl))
 f169:=Tryz.func187.trans (congrArg some (by kernel_rfl))
 f195:=Tryz.func211.trans (congrArg some (by kernel_rfl))
 f197:=Tryz.func186.trans (congrArg some (by kernel_rfl))
 f217:=Tryz.func236.trans (congrArg some (by kernel_rfl))
 f218:=Tryz.func212.trans (congrArg some (by kernel_rfl))
 f219:=Tryz.func215.trans (congrArg some (by kernel_rfl))
 f224:=Tryz.func238.trans (congrArg some (by kernel_rfl))
 f225:=Tryz.func237.trans (congrArg some (by kernel_rfl))
 f240:=Tryz.func213.trans (congrArg some (by kernel_rfl))
 f241:=Tryz.func214.trans (congrArg some (by kernel_rfl))
 f260:=Tryz.func216.trans (congrArg some (by kernel_rfl))
 f266:=Tryz.func246.trans (congrArg some (by kernel_rfl))
 f267:=Tryz.func239.trans (congrArg some (by kernel_rfl))
 f276:=Tryz.func234.trans (congrArg some (by kernel_rfl))
 f277:=Tryz.func235.trans (congrArg some (by kernel_rfl))
 f314:=Tryz.func247.trans (congrArg some (by kernel_rfl))
 t0:=Tryz.underlying0
 a0:=Tryz.isAgg0
 z0:=Tryz.sizeOf0
 v0:=Tryz.zeroValue0
 t3:=Tryz.underlying3
 a3:=Tryz.isAgg3
 z3:=Tryz.sizeOf3
 v3:=Tryz.zeroValue3
 t4:=Tryz.underlying4
 a4:=Tryz.isAgg4
 z4:=Tryz.sizeOf4
 v4:=Tryz.zeroValue4
 t5:=Tryz.underlying5
 a5:=Tryz.isAgg5
 z5:=Tryz.sizeOf5
 v5:=Tryz.zeroValue5
 t9:=Tryz.underlying9
 a9:=Tryz.isAgg9
 z9:=Tryz.sizeOf9
 v9:=Tryz.zeroValue9
 t20:=Tryz.underlying20
 a20:=Tryz.isAgg20
 z20:=Tryz.sizeOf20
 v20:=Tryz.zeroValue20
 t21:=Tryz.underlying21
 a21:=Tryz.isAgg21
 z21:=Tryz.sizeOf21
 v21:=Tryz.zeroValue21
 t37:=Tryz.underlying189
 a37:=Tryz.isAgg189
 z37:=Tryz.sizeOf189
 v37:=Tryz.zeroValue189
 t46:=Tryz.underlying147
 a46:=Tryz.isAgg147
 z46:=Tryz.sizeOf147
 v46:=Tryz.zeroValue147
 t51:=Tryz.underlying177
 a51:=Tryz.isAgg177
 z51:=Tryz.sizeOf177
 v51:=Tryz.zeroValue177
 t70:=Tryz.underlying188
 a70:=Tryz.isAgg188
 z70:=Tryz.sizeOf188
 v70:=Tryz.zeroValue188
 t72:=Tryz.underlying191
 a72:=Tryz.isAgg191
 z72:=Tryz.sizeOf191
 v72:=Tryz.zeroValue191
 t75:=Tryz.underlying194
 a75:=Tryz.isAgg194
 z75:=Tryz.sizeOf194
 v75:=Tryz.zeroValue194
 t76:=Tryz.underlying195
 a76:=Tryz.isAgg195
 z76:=Tryz.sizeOf195
 v76:=Tryz.zeroValue195
 t105:=Tryz.underlying197
 a105:=Tryz.isAgg197
 z105:=Tryz.sizeOf197
 v105:=Tryz.zeroValue197
 t119:=Tryz.underlying235
 a119:=Tryz.isAgg235
 z119:=Tryz.sizeOf235
 t127:=Tryz.underlying218
 a127:=Tryz.isAgg218
 z127:=Tryz.sizeOf218
 v127:=Tryz.zeroValue218
 t138:=Tryz.underlying237
 a138:=Tryz.isAgg237
 z138:=Tryz.sizeOf237
 v138:=Tryz.zeroValue237
 t139:=Tryz.underlying238
 a139:=Tryz.isAgg238
 z139:=Tryz.sizeOf238
 v139:=Tryz.zeroValue238
 t146:=Tryz.underlying241
 a146:=Tryz.isAgg241
 z146:=Tryz.sizeOf241
 v146:=Tryz.zeroValue241
 t164:=Tryz.underlying232
 a164:=Tryz.isAgg232
 z164:=Tryz.sizeOf232
 v164:=Tryz.zeroValue232
 g1:=by kernel_rfl
 g3:=by kernel_rfl
 g4:=by kernel_rfl}
def Tryz.growV_ren:Go.Shelf.Ren:=⟨fun|4=>112|n=>n,fun|22=>29|25=>40|3=>3|4=>4|9=>9|20=>20|0=>0|n=>n,fun|n=>n⟩
theorem Tryz.growV:Go.Proofs.Lays8.n4 Tryz.prog Tryz.growV_ren:={
 mixed:=by kernel_rfl
 f4:=⟨Tryz.f112.name,by decide,Tryz.func112.trans (congrArg some (by kernel_rfl))⟩
 t0:=Tryz.underlying0
 a0:=Tryz.isAgg0
 z0:=Tryz.sizeOf0
 v0:=Tryz.zeroValue0
 t3:=Tryz.underlying3
 a3:=Tryz.isAgg3
 z3:=Tryz.sizeOf3
 v3:=Tryz.zeroValue3
 t4:=Tryz.underlying4
 a4:=Tryz.isAgg4
 z4:=Tryz.sizeOf4
 v4:=Tryz.zeroValue4
 t9:=Tryz.underlying9
 a9:=Tryz.isAgg9
 z9:=Tryz.sizeOf9
 v9:=Tryz.zeroValue9
 t20:=Tryz.underlying20
 a20:=Tryz.isAgg20
 z20:=Tryz.sizeOf20
 v20:=Tryz.zeroValue20
 t22:=Tryz.underlying29
 a22:=Tryz.isAgg29
 z22:=Tryz.sizeOf29
 v22:=Tryz.zeroValue29}
theorem Tryz.Builder_Extra_155:Builder.Extra Tryz.prog Tryz.lays155_ren:={
 sizeBuilder:=by kernel_rfl
 liesBuilder:=by kernel_rfl
 t5:=Tryz.underlying5
 a5:=Tryz.isAgg5
 z5:=Tryz.sizeOf5
 v5:=Tryz.zeroValue5
 infoByte:=by kernel_rfl
 cellsByte:=by kernel_rfl
 sizeByte:=by kernel_rfl
 neB5:=by decide}
end Go.Proofs
end
section
namespace Go.Bi
open Go Go.Proofs Go.Shelf
def dv:D->Option Value
 |.int k n=>some (.int k n)
 |.bool b=>some (.bool b)
 |.str s=>some (.string ⟨⟨s⟩⟩)
 |_=>none
theorem D6P{M:C2}{d:D}{u v:Value}(h:dv d=some u)(r:Rd M d v):v=u:=by
 cases r<;>simp[dv] at h<;>exact h
theorem D3N{M:C2}{d:D}{u:Value}(h:dv d=some u):Rd M d u:=by
 cases d<;>simp[dv] at h<;>subst h<;>constructor
theorem B1W{P:Program}{f:FuncId}(hen:Bi.Enters P f)(ds:List D)(us:List Value)(hl:ds.map dv=us.map some)(r:D)(u:Value)(hr:dv r=some u)
  (h:∀M G w,C0 M G [] w->Calls P f us.toArray w λe w'=>e=.returned u/\w'.os=w.os/\w'.tape=w.tape/\w'.output=w.output/\w.heap.size<=w'.heap.size/\∀b,b<w.heap.size->w'.heap[b]?=w.heap[b]?):Bi.Pure P f (ds.map .d) (.d r):=by
 refine⟨hen,λM G w vs hE hl' hv=>?_⟩
 have hll:ds.length=us.length:=by have:=congrArg List.length hl;simpa using this
 have hsz:vs.size=us.length:=by rw[hl',C6,hll]
 have e:vs=us.toArray:=by
  refine Array.ext (by simpa using hsz) λj h1 h2=>?_
  have hj:j<ds.length:=by omega
  have hj2:j<us.length:=by omega
  have k1:=hv j (.d ds[j]) vs[j] (by simp[hj]) (J4 h1)
  have k2:dv ds[j]=some us[j]:=by
   have:=congrArg (λl=>l[j]?) hl
   simpa[hj,hj2] using this
  have k3:=D6P k2 k1
  simpa using k3
 subst e
 refine(h M G w hE).mono λe w' ⟨h1,h2,h3,h4,h5,h6⟩=>⟨u,h1,M,G,.d r,[],B1c hE h2 h3 h4 h5 h6,A74 h2 h3 h4 h5 h6,D3N hr,rfl,rfl⟩
end Go.Bi
namespace Go.Proofs
open Go.Bi Go.Shelf
theorem D7u{M:C2}{G:Gh}{os:List AO}{w:World}(hE:C0 M G os w):Lib.TabIs Tryz.prog w "internal/strconv.uint64pow10" .u64 Lib.pow10Tab:=by
 obtain⟨⟨o,h1,h2⟩,_⟩:=hE.glb 0 (.inl rfl)
 obtain⟨t,f,rfl⟩:=h2.1 rfl
 unfold Lib.TabIs World.var?
 rw[show Tryz.prog.globalNamed "internal/strconv.uint64pow10" = some 0 by kernel_rfl]
 simp only[Option.bind_some,h1]
 rfl
theorem C0y{M:C2}{G:Gh}{os:List AO}{w:World}(hE:C0 M G os w):∃m:Int,w.cell? ⟨1,0,none⟩=some (.int .i64 m):=by
 obtain⟨⟨o,h1,h2⟩,_⟩:=hE.glb 1 (.inr rfl)
 obtain⟨n,t,f,rfl⟩:=h2.2 rfl
 exact⟨n,by simp[World.cell?,h1]⟩
theorem C4L(n:Int)(h0:-9223372036854775808<=n)(h1:n<=9223372036854775807):Bi.Pure Tryz.prog B7Q [.d (eI n)] (.d (.str (Lib.itoa n))):=by
 refine B1W ⟨_,Tryz.func110,by kernel_rfl,by decide⟩ [eI n] [.int .i64 n] rfl (.str (Lib.itoa n)) _ rfl λM G w hE=>?_
 refine(Any.strconv_Itoa Tryz.laysM171 n h0 h1 w (D7u hE)).mono ?_
 rintro e w' ⟨rfl,k,os,rfl⟩
 exact⟨rfl,rfl,rfl,rfl,by simp[Go.Sort.grow,World.drewN],λb hb=>by simp only[Go.Sort.grow,World.drewN];exact A27 hb⟩
theorem A9F(s old new:List UInt8)(hs:s.length<=4294967280)(h1:1<=old.length)(hn:new.length<=2):Bi.Pure Tryz.prog A5M [.d (.str s),.d (.str old),.d (.str new)] (.d (.str (Lib.replaceAll s old new))):=by
 refine B1W ⟨_,Tryz.func111,by kernel_rfl,by decide⟩ [.str s,.str old,.str new] [.string ⟨⟨s⟩⟩,.string ⟨⟨old⟩⟩,.string ⟨⟨new⟩⟩] rfl (.str (Lib.replaceAll s old new)) _ rfl λM G w hE=>?_
 obtain⟨m,hm⟩:=C0y hE
 have k1:=Lib.countB_mul_le ⟨⟨old⟩⟩ h1 s.length ⟨⟨s⟩⟩ (G8 _)
 have k2:Lib.countB ⟨⟨s⟩⟩ ⟨⟨old⟩⟩<=s.length:=O4 (Nat.le_mul_of_pos_right _ h1) k1
 have k3:Lib.countB ⟨⟨s⟩⟩ ⟨⟨old⟩⟩*new.length<=s.length*2:=Nat.mul_le_mul k2 hn
 refine(Any.strings_ReplaceAll Tryz.lays155 Tryz.Builder_Extra_155 ⟨⟨s⟩⟩ ⟨⟨old⟩⟩ ⟨⟨new⟩⟩ m w (by show s.length<_;omega) hm h1 (by show s.length+Lib.countB ⟨⟨s⟩⟩ ⟨⟨old⟩⟩*new.length<=_;omega)).mono ?_
 rintro e w' ⟨rfl,hb⟩
 exact⟨rfl,hb.os,hb.tape,hb.output,hb.size,hb.block⟩
theorem C4M(s sub:List UInt8)(hs:s.length<=4294967280):Bi.Pure Tryz.prog B7R [.d (.str s),.d (.str sub)] (.d (.bool (Lib.contains s sub))):=by
 refine B1W ⟨_,Tryz.func146,by kernel_rfl,by decide⟩ [.str s,.str sub] [.string ⟨⟨s⟩⟩,.string ⟨⟨sub⟩⟩] rfl (.bool (Lib.contains s sub)) _ rfl λM G w hE=>?_
 obtain⟨m,hm⟩:=C0y hE
 refine(Any.strings_Contains Tryz.lays144 ⟨⟨s⟩⟩ ⟨⟨sub⟩⟩ m w (by show s.length<_;omega) hm).mono ?_
 rintro e w' ⟨rfl,rfl⟩
 exact⟨rfl,rfl,rfl,rfl,G8 _,λ_ _=>rfl⟩
end Go.Proofs
end
