/- Texts of this claim, joined. No condition. -/
import Derived.Test.YtnhhopmldgpglaaGreatDoorQ7
import Derived.Sort.Walk0
set_option linter.unusedSimpArgs false
set_option linter.unusedVariables false
set_option maxRecDepth 10000
set_option maxHeartbeats 4000000
section
namespace Go.Proofs
open Go.Bi
def FD(i:Nat)(l:List Fo):List (List D):=F0 (l.map (I1 i))
theorem C6O(i:Nat){l:List Fo}{j:Nat}{f:Fo}(h:l[j]?=some f):FD i (l.take j)++[[.sl (A0 (f.cs.map λc=>A6 c i)),.str f.tb]]=FD i (l.take (j+1)):=by
 have h1:=B3D (l:=l.map (I1 i)) (i:=j) (f:=I1 i f) (by rw[F8,h];rfl)
 rw[<- List.map_take,<- List.map_take] at h1
 exact h1
theorem C6N(i:Nat)(l:List Fo):(FD i l).length=l.length:=by unfold FD;rw[B3B,C6]
theorem D4j{α:Type}(l:List α)(i:Nat):l.take i++l.drop (i+1)=l.eraseIdx i:=(List.eraseIdx_eq_take_drop_succ ..).symm
def TD.wo(x:TD)(i:Nat):TD:=⟨⟨x.t.nm,x.t.cs.eraseIdx i,x.t.ks.map (λc=>A6 c i),(x.t.fs.map (I1 i)).map U0,x.t.xs.map (N4 i)⟩,eD (A9 (x.t.cs.eraseIdx i)),.sl (A0 (x.t.ks.map λc=>A6 c i)),eD (FD i x.t.fs),eD (xL (x.t.xs.map (N4 i)))⟩
theorem C4c(x:TD)(h:x.ok)(i:Nat)(hi:i<x.t.cs.length)(hkb:∀k∈x.t.ks,0<=k/\k<=1048576)(hfb:∀g∈x.t.fs,∀k∈g.cs,0<=k/\k<=1048576) :
  B0 Tryz.prog A7P [x.av,.d (eI i)] [] (λr os=>∃T:List (List D),T=A9 (x.t.cs.eraseIdx i)/\r=.agg [.d (.str x.t.nm),.arr 3 T.length,.d (.sl (A0 (x.t.ks.map λc=>A6 c i))),.arr 4 (FD i x.t.fs).length,.arr 5 (xL (x.t.xs.map (N4 i))).length]/\
  ∃a b c fl,fl=T.isEmpty/\os=[a,b,c,.arr T 3 0 fl,.arr (FD i x.t.fs) 2 0 (FD i x.t.fs).isEmpty,.arr (xL (x.t.xs.map (N4 i))) 7 0 (xL (x.t.xs.map (N4 i))).isEmpty]):=by
 obtain⟨⟨nm,cs,ks,fs,xs⟩,dc,dk,df,dx⟩:=x
 obtain⟨⟨h1,h2,h3,h4,h5,h6,h7,h8,h9,h10,h11,h12⟩,hr⟩:=h
 dsimp only at h1 h2 h3 h4 h5 h6 h7 h8 h9 h10 h11 h12 hr hi hkb hfb ⊢
 have hT:(A9 cs).take i++(A9 cs).drop (i+1)=A9 (cs.eraseIdx i):=by rw[A4B,D4j]
 have hK:=B2W ks h4 hkb i dk h10
 have c1:=F3 cs
 have c2:=H8 cs
 have f1:=A0C fs
 have f2:=A2j fs
 have f3:=λi f=>@A2V fs i f
 have x1:=I7 xs
 have x2:=O7 xs
 have x3:=o3 (args:=xs)
 have hdc:dc=.sl (A9 cs):=by
  rcases h9 with ⟨_,h⟩|h
  ·rw[h] at c1;simp at c1;omega
  ·exact h
 obtain⟨T,hT0⟩:∃T,T=A9 (cs.eraseIdx i):=⟨_,rfl⟩
 rw[<- hT0] at hT
 obtain⟨Cs,hCs⟩:∃z,z=A9 cs:=⟨_,rfl⟩
 obtain⟨Fs,hFs⟩:∃z,z=G5 fs:=⟨_,rfl⟩
 obtain⟨Xs,hXs⟩:∃z,z=xL xs:=⟨_,rfl⟩
 obtain⟨FR,hFR⟩:∃z,z=FD i fs:=⟨_,rfl⟩
 obtain⟨XR,hXR⟩:∃z,z=xL (xs.map (N4 i)):=⟨_,rfl⟩
 obtain⟨KR,hKR⟩:∃z,z=A0 (ks.map λc=>A6 c i):=⟨_,rfl⟩
 rw[<- hCs] at c1 c2 hdc hT
 rw[<- hFs] at f1 f2 f3 h11
 rw[<- hXs] at x1 x2 x3 h12
 rw[<- hKR] at hK ⊢
 rw[<- hFR,<- hXR]
 subst hdc
 obtain⟨T1,hT1⟩:∃z,z=Cs.take i:=⟨_,rfl⟩
 obtain⟨T2,hT2⟩:∃z,z=Cs.drop (i+1):=⟨_,rfl⟩
 have t1:List.take ((i:Int).toNat-((0:Nat):Int).toNat) (List.drop ((0:Nat):Int).toNat Cs)=T1:=by rw[hT1];rfl
 have t2:List.take ((Cs.length:Int).toNat-((i:Int)+1).toNat) (List.drop ((i:Int)+1).toNat Cs)=T2:=by
  rw[hT2]
  exact J5 (by rw[U5];omega)
 have cm1:∀e∈T1,e.length=3:=λe he=>c2 e (Z1 (hT1▸he))
 have cm2:∀e∈T2,e.length=3:=λe he=>c2 e (A2b (hT2▸he))
 have l1:T1.length<=1048576:=by rw[hT1];exact O4 (List.length_take_le ..) (by omega)
 have l2:T2.length<=1048576:=by rw[hT2,U5];omega
 rw[<- hT1,<- hT2] at hT
 have hfl:(bif T2.isEmpty then T1.isEmpty else false)=T.isEmpty:=by rw[<- hT];cases T1<;>cases T2<;>rfl
 have b1:(([]:List (List D)).length+T1.length)*32<=140737488355328/\([]:List (List D)).length+T1.length<=9223372036854775807:=by rw[P9];omega
 have b2:(T1.length+T2.length)*32<=140737488355328/\T1.length+T2.length<=9223372036854775807:=by omega
 refine C5I.goO A4 rfl ?_
 repeat' first|refine st ?_|refine⟨λ_=>?_,λ_=>?_⟩|fail
 rw[t1]
 repeat' first|refine st ?_|refine⟨λ_=>?_,λ_=>?_⟩|fail
 rw[t2]
 repeat' first|refine st ?_|refine⟨λ_=>?_,λ_=>?_⟩|fail
 rw[hT]
 refine A3g 2 3 2 rfl rfl rfl ?_
 refine I2 A4 C8S C7K (λ(j:Nat) (w:List (List D)×Bool)=>[.d (eI j)]) (λj w=>[.cells [.d (.str nm),.d (.sl Cs),.d dk,.d df,.d dx],.cells [.d (.str []),.d .nil,.d .nil,.d .nil,.d .nil],.cells [.d (.str nm),.arr 3 T.length,.d (.sl KR),.arr 4 w.1.length,.d .nil],.arr T 3 0 (bif T2.isEmpty then T1.isEmpty else false),.arr w.1 2 0 w.2]) (λj w=>j<=fs.length/\w.1=FD i (fs.take j)/\w.2=w.1.isEmpty) (λj w=>fs.length-j) 0 ([],true) rfl rfl rfl rfl (λ_ _ _=>⟨rfl,rfl⟩) rfl ⟨by omega,rfl,rfl⟩ ?_
 repeat' first|refine st ?_|refine⟨λ_=>?_,λ_=>?_⟩|fail
 intro j w ⟨g1,g2,g3⟩
 obtain⟨A,b⟩:=w
 dsimp only at g2 g3 ⊢
 have hAl:A.length=j:=by rw[g2,C6N,J1];omega
 have hAm:∀e∈A,e.length=2:=by rw[g2];exact B3C _
 cases hy:fs[j]? with
 |some f=>
  have hlt:=(A7.1 hy).1
  have hg:=f3 j f hy
  have hs:=C6O i hy
  rw[<- g2] at hs
  have hfm:=B9 hy
  have hL:=B2W f.cs (h6 f hfm).1 (hfb f hfm) i f.d f.sld
  unfold Fo.ds at hg
  obtain⟨fd,hfd⟩:∃z,z=f.d:=⟨_,rfl⟩
  obtain⟨E,hE⟩:∃z,z=A0 (f.cs.map λc=>A6 c i):=⟨_,rfl⟩
  obtain⟨tb,htb⟩:∃z,z=f.tb:=⟨_,rfl⟩
  rw[<- hfd] at hg hL
  rw[<- htb] at hg hs
  rw[<- hE] at hL hs
  clear g2
  repeat' first|refine st ?_|refine⟨λ_=>?_,λ_=>?_⟩|fail
  exact⟨j+1,(A++[[.sl E,.str tb]],false),rfl,rfl,by first|rfl|(simp[CnD];done),by omega,by omega,hs,by simp⟩
 |none=>
  have hge:=C8.1 hy
  rw[J5 hge,<- hFR] at g2
  subst g2
  subst g3
  repeat' first|refine st ?_|refine⟨λ_=>?_,λ_=>?_⟩|fail
  refine A3g 2 4 7 rfl rfl rfl ?_
  refine I2 A4 C8T C7L (λ(j:Nat) (w:List (List D)×Bool)=>[.d (eI j)]) (λj w=>[.cells [.d (.str nm),.d (.sl Cs),.d dk,.d df,.d dx],.cells [.d (.str []),.d .nil,.d .nil,.d .nil,.d .nil],.cells [.d (.str nm),.arr 3 T.length,.d (.sl KR),.arr 4 A.length,.arr 5 w.1.length],.arr T 3 0 (bif T2.isEmpty then T1.isEmpty else false),.arr A 2 0 A.isEmpty,.arr w.1 7 0 w.2]) (λj w=>j<=xs.length/\w.1=Mt (N4 i) xs j/\w.2=w.1.isEmpty) (λj w=>xs.length-j) 0 ([],true) rfl rfl rfl rfl (λ_ _ _=>⟨rfl,rfl⟩) rfl ⟨by omega,rfl,rfl⟩ ?_
  repeat' first|refine st ?_|refine⟨λ_=>?_,λ_=>?_⟩|fail
  intro q w ⟨g4,g5,g6⟩
  obtain⟨B,b⟩:=w
  dsimp only at g5 g6 ⊢
  have hBl:B.length=q:=by rw[g5];exact A05 _ xs q (by omega)
  have hBm:∀e∈B,e.length=7:=by rw[g5];exact A06 _ _ _
  cases hx:xs[q]? with
  |some y=>
   have hlt:=(A7.1 hx).1
   have hs:=A07 (φ:=N4 i) hx
   have hS:=C48 i y (h8 y (B9 hx)) (hr y (B9 hx))
   rw[<- g5] at hs
   obtain⟨z,hz⟩:∃z,z=N4 i y:=⟨_,rfl⟩
   rw[<- hz] at hs hS
   obtain⟨o1,n1,v1,m1,l1,a1⟩:=y
   obtain⟨o2,n2,v2,m2,l2,a2⟩:=z
   have hg:=x3 _ _ _ _ _ _ _ hx
   rw[Ex.ds_mk] at hs
   rw[Ex.av_mk,Ex.av_mk] at hS
   clear g5
   repeat' first|refine st ?_|refine⟨λ_=>?_,λ_=>?_⟩|fail
   exact⟨q+1,(B++[W6 o2 n2 v2 m2 (ng l2 (xL a2))],false),rfl,rfl,rfl,by omega,by omega,hs,by simp⟩
  |none=>
   have hge:=C8.1 hx
   rw[A04 hge,<- hXR] at g5
   subst g5
   subst g6
   repeat' first|refine st ?_|refine⟨λ_=>?_,λ_=>?_⟩|fail
   all_goals exact⟨T,hT0,rfl,_,_,_,_,hfl,rfl⟩
theorem D3F{os:List AO}{nm:List UInt8}{a f x:Nat}{Cs F X:List (List D)}{k:D}{cn fn xn:Bool}{cz fz xz cf ff xf:Nat}
  (h1:os[a]?=some (.arr Cs cz cf cn)) (h3:os[f]?=some (.arr F fz ff fn)) (h4:os[x]?=some (.arr X xz xf xn)) :
  DG os (.agg [.d (.str nm),.arr a Cs.length,.d k,.arr f F.length,.arr x X.length]) (eT nm (B5 cn Cs) k (B5 fn F) (B5 xn X)):=by
 refine .inr ⟨_,[.str nm,B5 cn Cs,k,B5 fn F,B5 xn X],rfl,rfl,rfl,λj c y hc hy=>?_⟩
 match j,hc,hy with
 |0,hc,hy=>cases hc;cases hy;exact .inl (.inl rfl)
 |1,hc,hy=>cases hc;cases hy;exact .inl (.inr ⟨a,Cs,cz,cf,cn,rfl,h1,rfl⟩)
 |2,hc,hy=>cases hc;cases hy;exact .inl (.inl rfl)
 |3,hc,hy=>cases hc;cases hy;exact .inl (.inr ⟨f,F,fz,ff,fn,rfl,h3,rfl⟩)
 |4,hc,hy=>cases hc;cases hy;exact .inl (.inr ⟨x,X,xz,xf,xn,rfl,h4,rfl⟩)
 |j+5,hc,hy=>simp at hc
theorem C4b(x:TD)(h:x.ok)(i:Nat)(hi:i<x.t.cs.length)(hkb:∀k∈x.t.ks,0<=k/\k<=1048576)(hfb:∀g∈x.t.fs,∀k∈g.cs,0<=k/\k<=1048576):Pure Tryz.prog A7P [x.av,.d (eI i)] (x.wo i).av:=by
 refine B0.deepP (C4c x h i hi hkb hfb) ?_
 rintro r os ⟨T,hT,rfl,a,b,c,fl,hfl,rfl⟩
 subst hT
 subst hfl
 exact .inl (D3F rfl rfl rfl)
abbrev A62(c:Ch):List D:=[eI c.k,.str c.nm,.str c.to,.str c.co.nm,eI c.co.k,.bool c.co.nl,eI c.df.k,eI c.df.n,.str c.df.s]
def I3(l:List Ch):List (List D):=l.map A62
theorem A1d(l:List Ch):(I3 l).length=l.length:=by simp[I3]
theorem A8k{l:List Ch}{i:Nat}{c:Ch}(h:l[i]?=some c):(I3 l)[i]?=some (A62 c):=by simp[I3,h]
theorem A3J(l:List Ch):∀e∈I3 l,e.length=9:=by
 intro e he
 obtain⟨x,_,rfl⟩:=D9.1 he
 rfl
theorem D3U(l:List Ch)(i:Nat):(I3 l).take i=I3 (l.take i):=by simp[I3]
def TD.run(x:TD)(i:Nat):List Ch->TD×Nat×Int
 |[]=>(x,i,0)
 |c::r=>if C7 x.t c=0 then TD.run (x.evo c) (i+1) r else (O1,i,C7 x.t c)
def TD.runs(x:TD)(l:List Ch):TD×Nat×Int:=if H9 x.t=0 then TD.run x.cp 0 l else (O1,0,H9 x.t)
theorem D74{x:TD}{l:List Ch}{i:Nat}{c:Ch}(h:l[i]?=some c):TD.run x i (l.drop i)=if C7 x.t c=0 then TD.run (x.evo c) (i+1) (l.drop (i+1)) else (O1,i,C7 x.t c):=by
 obtain⟨hlt,he⟩:=A7.1 h
 rw[P7 hlt,he];rfl
theorem C3r(x:TD)(h:x.ok)(l:List Ch)(hl:l.length<=1048576)(hls:∀c∈l,H6 c)(d:D)(hd:B3 d (I3 l)) :
  Pure Tryz.prog B0h [x.av,.d d] (.tup [(x.runs l).1.av,.d (eI ((x.runs l).2.1:Nat)),.d (eI (x.runs l).2.2)]):=by
 have hT:=A7u x.t x.dc x.dk x.df x.dx h.tok
 obtain⟨R,hR⟩:∃R,R=x.runs l:=⟨_,rfl⟩
 rw[<- hR]
 unfold TD.runs at hR
 have h1:=A1d l
 have hm:=A3J l
 have hg0:=λi c=>@A8k l i c
 obtain⟨es,hes⟩:∃es,es=I3 l:=⟨_,rfl⟩
 rw[<- hes] at h1 hm hd hg0
 by_cases hq:H9 x.t=0
 rotate_left
 ·rw[if_neg hq] at hR
  subst hR
  obtain⟨q,hqq⟩:∃q,q=H9 x.t:=⟨_,rfl⟩
  rw[<- hqq] at hT hq ⊢
  refine B3m.go A4 rfl ?_
  repeat' first|refine st ?_|((with_reducible apply C4);conv=>whnf)|refine⟨λ_=>?_,λ_=>?_⟩|fail
  all_goals rfl
 ·rw[if_pos hq] at hR
  rw[hq] at hT
  have hC:=A7m x h (V3.1 hq).fl
  have hok:=TD.cp_ok h
  obtain⟨y,hy⟩:∃y,y=x.cp:=⟨_,rfl⟩
  rw[<- hy] at hC hR hok
  clear hy
  obtain⟨⟨nm,cs,ks,fs,xs⟩,dc,dk,df,dx⟩:=x
  have hC:Bi.Pure Tryz.prog A0Z [eT nm dc dk df dx] (eT y.t.nm y.dc y.dk y.df y.dx):=hC
  have hT:Bi.Pure Tryz.prog A7Z [eT nm dc dk df dx] (.d (eI 0)):=hT
  refine B3m.go A4 rfl ?_
  repeat' first|refine st ?_|((with_reducible apply C4);conv=>whnf)|refine⟨λ_=>?_,λ_=>?_⟩|fail
  refine I2 A4 C96 C7Y (λ(i:Nat) (w:TD)=>[.d (eI i)]) (λi w=>[.cells [.d (.str nm),.d dc,.d dk,.d df,.d dx],.cells [.d (.str []),.d .nil,.d .nil,.d .nil,.d .nil],.cells [.d (.str w.t.nm),.d w.dc,.d w.dk,.d w.df,.d w.dx]]) (λi w=>i<=l.length/\w.ok/\R=TD.run w i (l.drop i)) (λi w=>l.length-i) 0 y rfl rfl rfl rfl (λ_ _ _=>⟨rfl,rfl⟩) rfl ⟨by omega,hok,hR⟩ ?_
  repeat' first|refine st ?_|((with_reducible apply C4);conv=>whnf)|refine⟨λ_=>?_,λ_=>?_⟩|fail
  intro i w ⟨h4,h5,h6⟩
  cases hx:l[i]? with
  |some c=>
   have hlt:=(A7.1 hx).1
   have hcok:=hls c (B9 hx)
   have hg:=hg0 i c hx
   rw[D74 hx] at h6
   by_cases he:C7 w.t c=0
   ·rw[if_pos he] at h6
    have hA:=B2I w h5 c hcok he
    have hok2:=TD.evo_ok h5 hcok he
    obtain⟨z,hz⟩:∃z,z=w.evo c:=⟨_,rfl⟩
    rw[<- hz] at hA h6 hok2
    obtain⟨ck,cnm,to,⟨cn,cck,cl⟩,⟨vk,vn,vs⟩⟩:=c
    have hA:Bi.Pure Tryz.prog Q9 [eT w.t.nm w.dc w.dk w.df w.dx,chD ck cnm to cn cck cl vk vn vs] (.tup [eT z.t.nm z.dc z.dk z.df z.dx,.d (eI 0)]):=hA
    clear hR
    repeat' first|refine st ?_|((with_reducible apply C4);conv=>whnf)|refine⟨λ_=>?_,λ_=>?_⟩|fail
    exact⟨i+1,z,rfl,rfl,rfl,by omega,by omega,hok2,h6⟩
   ·rw[if_neg he] at h6
    have hA:=B2J w h5 c hcok he
    subst h6
    obtain⟨q,hqq⟩:∃q,q=C7 w.t c:=⟨_,rfl⟩
    rw[<- hqq] at hA he ⊢
    obtain⟨ck,cnm,to,⟨cn,cck,cl⟩,⟨vk,vn,vs⟩⟩:=c
    have hA:Bi.Pure Tryz.prog Q9 [eT w.t.nm w.dc w.dk w.df w.dx,chD ck cnm to cn cck cl vk vn vs] (.tup [eT [] .nil .nil .nil .nil,.d (eI q)]):=hA
    clear hR
    repeat' first|refine st ?_|((with_reducible apply C4);conv=>whnf)|refine⟨λ_=>?_,λ_=>?_⟩|fail
    all_goals rfl
  |none=>
   have hge:=C8.1 hx
   rw[A0V hge] at h6
   have hil:i=l.length:=by omega
   subst h6
   clear hR
   repeat' first|refine st ?_|((with_reducible apply C4);conv=>whnf)|refine⟨λ_=>?_,λ_=>?_⟩|fail
   all_goals (first|rfl|(simp only[TD.run,hil,h1];done)|(rw[h1,<- hil];rfl))
theorem C1l(x:TD)(h:x.ok)(c:Ch)(hc:H6 c)(hq:C7 x.t c≠0):Pure Tryz.prog A5I [x.av,c.av] (.tup [O1.av,.d (eI (C7 x.t c))]):=by
 have hC:=A7p x.t x.dc x.dk x.df x.dx h.tok c hc
 obtain⟨q,hqq⟩:∃q,q=C7 x.t c:=⟨_,rfl⟩
 rw[<- hqq] at hC hq ⊢
 obtain⟨⟨nm,cs,ks,fs,xs⟩,dc,dk,df,dx⟩:=x
 obtain⟨k,cnm,to,⟨cn,ck,cl⟩,⟨vk,vn,vs⟩⟩:=c
 refine A5o.go A4 rfl ?_
 repeat' first|refine st ?_|refine⟨λ_=>?_,λ_=>?_⟩|fail
 all_goals rfl
def TD.evoR(x:TD)(c:Ch):TD:=
 if c.k=2 then x.wo (D4 c.nm x.t.cs).toNat
 else ⟨⟨x.t.nm,(D7 x.t c).cs,x.t.ks,x.t.fs.map U0,x.t.xs.map F6⟩,.sl (A9 (D7 x.t c).cs),eD (A0 x.t.ks),eD (F0 x.t.fs),eD (xL (x.t.xs.map F6))⟩
theorem C0L{x:TD}{c:Ch}(hk:1<=c.k/\c.k<=4):nf (x.evoR c).t=nf (D7 x.t c):=by
 have e1:(x.t.fs.map U0).map U0=x.t.fs.map U0:=by rw[l7];rfl
 have e3 (i:Nat):((x.t.fs.map (I1 i)).map U0).map U0=(x.t.fs.map (I1 i)).map U0:=by rw[l7,l7,l7];rfl
 unfold TD.evoR
 by_cases k2:c.k=2
 ·rw[if_pos k2]
  unfold D7
  rw[if_neg (by omega),if_pos k2]
  unfold TD.wo nf
  dsimp only
  rw[e3]
 ·rw[if_neg k2]
  unfold D7
  rw[if_neg k2]
  by_cases k1:c.k=1
  ·rw[if_pos k1];unfold nf;dsimp only;rw[e1]
  ·rw[if_neg k1]
   by_cases k3:c.k=3
   ·rw[if_pos k3];unfold nf;dsimp only;rw[e1]
   ·rw[if_neg k3];unfold nf;dsimp only;rw[e1]
theorem TD.evoR_ok{x:TD}(h:x.ok){c:Ch}(hc:H6 c)(hq:C7 x.t c=0):(x.evoR c).ok:=by
 obtain⟨q1,q2,_⟩:=p8 hq
 have h1:=TD.evo_ok h hc hq
 have h2:=TD.cpR_ok h
 unfold TD.evoR
 by_cases k2:c.k=2
 ·rw[if_pos k2]
  have e:D7 x.t c=⟨x.t.nm,x.t.cs.eraseIdx (D4 c.nm x.t.cs).toNat,x.t.ks.map (λy=>A6 y (D4 c.nm x.t.cs).toNat),x.t.fs.map (I1 (D4 c.nm x.t.cs).toNat),x.t.xs.map (N4 (D4 c.nm x.t.cs).toNat)⟩:=by unfold D7;rw[if_neg (by omega),if_pos k2]
  obtain⟨⟨a1,a2,a3,a4,a5,a6,a7,a8,a9,a10,a11,a12⟩,hr⟩:=h1
  have hr:(D7 x.t c).Rg:=hr
  have a2:(D7 x.t c).cs.length<=1048576:=a2
  have a3:∀c'∈(D7 x.t c).cs,c'.nm.length<=1048576:=a3
  have a4:(D7 x.t c).ks.length<=1048576:=a4
  have a5:(D7 x.t c).fs.length<=1048576:=a5
  have a6:∀f∈(D7 x.t c).fs,f.cs.length<=1048576/\f.tb.length<=1048576:=a6
  have a7:(D7 x.t c).xs.length<=1048576:=a7
  have a8:∀e∈(D7 x.t c).xs,e.bk<=1048576:=a8
  rw[e] at hr a2 a3 a4 a5 a6 a7 a8
  refine⟨⟨h.tok.hn,a2,a3,a4,?_,λf hf=>?_,a7,a8,A1M _,J7,A1M _,A1M _⟩,hr⟩
  ·show((x.t.fs.map _).map U0).length<=_
   rw[C6];exact a5
  ·obtain⟨g,hg,rfl⟩:=D9.1 hf
   exact a6 g hg
 ·rw[if_neg k2]
  exact⟨⟨h.tok.hn,h1.tok.hl,h1.tok.hls,h.tok.hk,h2.tok.hfl,h2.tok.hfc,h2.tok.hxs,h2.tok.hxb,J7,A1M _,A1M _,A1M _⟩,h2.rg⟩
theorem B2V(x:TD)(h:x.ok)(c:Ch)(hc:H6 c)(hq:C7 x.t c=0):Pure Tryz.prog A5I [x.av,c.av] (.tup [(x.evoR c).av,.d (eI 0)]):=by
 obtain⟨q1,q2,q3,q4,q5⟩:=p8 hq
 have hv:=V3.1 q1
 have hC:=A7p x.t x.dc x.dk x.df x.dx h.tok c hc
 rw[hq] at hC
 have hF:=A3j x.t.nm x.t.cs h.tok.hl x.dc x.dk x.df x.dx h.tok.dc c.nm
 have hne:(A9 x.t.cs).isEmpty=false:=by
  have:=hv.l1
  cases hcs:x.t.cs with
  |nil=>rw[hcs] at this;simp at this
  |cons a l=>rfl
 have hl:=hv.l2
 have hcl:=F3 x.t.cs
 have hcm:=H8 x.t.cs
 by_cases k2:c.k=2
 ·obtain⟨i,co,hi,hco,hcn,hus,_,_⟩:=A08 (q5 (by omega))
  have hil:=(A7.1 hco).1
  have hR:=A9A x h
  have hW:=C4b x h i hil (λk hk=>by have:=hv.ks k hk;omega) (λg hg k hk=>by have:=(hv.fs g hg).2.2.1 k hk;omega)
  have e:x.evoR c=x.wo i:=by unfold TD.evoR;rw[if_pos k2,hi];rfl
  rw[e]
  rw[hi] at hF
  obtain⟨y,hy⟩:∃y,y=x.wo i:=⟨_,rfl⟩
  obtain⟨z,hz⟩:∃y,y=x.cpR:=⟨_,rfl⟩
  rw[<- hy] at hW ⊢
  rw[<- hz] at hR
  clear hy hz hcl hcm hne
  obtain⟨⟨nm,cs,ks,fs,xs⟩,dc,dk,df,dx⟩:=x
  obtain⟨k,cnm,to,⟨cn,ck,cl⟩,⟨vk,vn,vs⟩⟩:=c
  dsimp only at k2
  subst k2
  have hR:Bi.Pure Tryz.prog A4k [eT nm dc dk df dx] (eT z.t.nm z.dc z.dk z.df z.dx):=hR
  have hW:Bi.Pure Tryz.prog A7P [eT nm dc dk df dx,.d (eI i)] (eT y.t.nm y.dc y.dk y.df y.dx):=hW
  have hF:Bi.Pure Tryz.prog A5H [eT nm dc dk df dx,.d (.str cnm)] (.d (eI i)):=hF
  refine A5o.go A4 rfl ?_
  repeat' first|refine st ?_|refine⟨λ_=>?_,λ_=>?_⟩|fail
  all_goals rfl
 ·have e:x.evoR c=⟨⟨x.t.nm,(D7 x.t c).cs,x.t.ks,x.t.fs.map U0,x.t.xs.map F6⟩,.sl (A9 (D7 x.t c).cs),eD (A0 x.t.ks),eD (F0 x.t.fs),eD (xL (x.t.xs.map F6))⟩:=by unfold TD.evoR;rw[if_neg k2]
  rw[e]
  have hR:=B2T x h
  rw[hne] at hR
  by_cases k1:c.k=1
  ·have e2:(D7 x.t c).cs=x.t.cs++[c.co]:=by unfold D7;rw[if_pos k1]
   have e3:A9 (x.t.cs++[c.co])=A9 x.t.cs++[c.co.ds]:=by simp[A9]
   unfold TD.av
   dsimp only
   rw[e2,e3]
   obtain⟨f,hf⟩:∃f,f=D4 c.nm x.t.cs:=⟨_,rfl⟩
   rw[<- hf] at hF
   generalize A9 x.t.cs=Cs at hR hcl hcm ⊢
   generalize A0 x.t.ks=Ks at hR ⊢
   generalize F0 x.t.fs=Fs at hR ⊢
   generalize xL (x.t.xs.map F6)=Xs at hR ⊢
   obtain⟨⟨nm,cs,ks,fs,xs⟩,dc,dk,df,dx⟩:=x
   obtain⟨k,cnm,to,⟨cn,ck,cl⟩,⟨vk,vn,vs⟩⟩:=c
   dsimp only at k1 hF hcl hl
   subst k1
   refine B0.deepP (Q:=λr os=>r=.tup [.agg [.d (.str nm),.arr 6 (Cs++[[.str cn,eI ck,.bool cl]]).length,.arr 7 Ks.length,.arr 8 Fs.length,.arr 9 Xs.length],.d (eI 0)]/\os[6]?=some (.arr (Cs++[[.str cn,eI ck,.bool cl]]) 3 0 false)/\os[7]?=some (.arr Ks 1 0 Ks.isEmpty)/\os[8]?=some (.arr Fs 2 0 Fs.isEmpty)/\os[9]?=some (.arr Xs 7 0 Xs.isEmpty)) ?_ ?_
   ·refine A5o.goO2 A4 rfl ?_
    repeat' first|refine st ?_|((with_reducible apply I5);(· exact hR);(rintro _ _ ⟨rfl,a,b,c,rfl⟩))|refine⟨λ_=>?_,λ_=>?_⟩|fail
    exact⟨rfl,rfl,rfl,rfl,rfl⟩
   ·rintro r os ⟨rfl,h1,h2,h3,h4⟩
    refine .inr ⟨_,[_,.d (eI 0)],rfl,rfl,rfl,λj c x hc hx=>?_⟩
    match j,hc,hx with
    |0,hc,hx=>cases hc;cases hx;exact B17 h1 h2 h3 h4
    |1,hc,hx=>cases hc;cases hx;exact .inl ⟨eI 0,.inl (.inl rfl),rfl⟩
    |j+2,hc,hx=>simp at hc
  ·obtain⟨i,co,hi,hco,hcn,hus,_,_⟩:=A08 (q5 (by omega))
   have hil:=(A7.1 hco).1
   have hiN:(D4 c.nm x.t.cs).toNat=i:=by omega
   have hgd:x.t.cs.getD i ⟨[],0,false⟩=co:=by rw[E8,hco];rfl
   rw[hi] at hF
   have hg:(A9 x.t.cs)[((i:Nat):Int).toNat]?=some [.str co.nm,eI co.k,.bool co.nl]:=L4 hco
   have hg2:(A9 x.t.cs)[i]?=some [.str co.nm,eI co.k,.bool co.nl]:=L4 hco
   have hilt:i<(A9 x.t.cs).length:=by rw[hcl];exact hil
   have key:∃N:Co,(D7 x.t c).cs=x.t.cs.set i N/\((c.k=3/\N=⟨c.to,co.k,co.nl⟩)\/(c.k=4/\N=⟨co.nm,2,co.nl⟩)):=by
    by_cases k3:c.k=3
    ·exact⟨⟨c.to,co.k,co.nl⟩,by unfold D7;rw[if_neg k1,if_neg k2,if_pos k3,hiN,hgd],.inl ⟨k3,rfl⟩⟩
    ·exact⟨⟨co.nm,2,co.nl⟩,by unfold D7;rw[if_neg k1,if_neg k2,if_neg k3,hiN,hgd],.inr ⟨by omega,rfl⟩⟩
   obtain⟨N,e2,e4⟩:=key
   have e3:A9 (x.t.cs.set i N)=(A9 x.t.cs).set i N.ds:=by unfold A9;rw[W8]
   unfold TD.av
   dsimp only
   rw[e2,e3]
   generalize A9 x.t.cs=Cs at hR hcl hcm hg hg2 hilt ⊢
   generalize A0 x.t.ks=Ks at hR ⊢
   generalize F0 x.t.fs=Fs at hR ⊢
   generalize xL (x.t.xs.map F6)=Xs at hR ⊢
   obtain⟨⟨nm,cs,ks,fs,xs⟩,dc,dk,df,dx⟩:=x
   obtain⟨k,cnm,to,⟨cn,ck,cl⟩,⟨vk,vn,vs⟩⟩:=c
   dsimp only at hF hcl hl e4
   refine B0.deepP (Q:=λr os=>r=.tup [.agg [.d (.str nm),.arr 6 (Cs.set i N.ds).length,.arr 7 Ks.length,.arr 8 Fs.length,.arr 9 Xs.length],.d (eI 0)]/\os[6]?=some (.arr (Cs.set i N.ds) 3 0 false)/\os[7]?=some (.arr Ks 1 0 Ks.isEmpty)/\os[8]?=some (.arr Fs 2 0 Fs.isEmpty)/\os[9]?=some (.arr Xs 7 0 Xs.isEmpty)) ?_ ?_
   ·rw[U6]
    rcases e4 with ⟨k3,rfl⟩|⟨k4,rfl⟩
    ·subst k3
     refine A5o.goO2 A4 rfl ?_
     repeat' first|refine st ?_|((with_reducible apply I5);(· exact hR);(rintro _ _ ⟨rfl,a,b,c,rfl⟩))|refine⟨λ_=>?_,λ_=>?_⟩|fail
     exact⟨rfl,rfl,rfl,rfl,rfl⟩
    ·subst k4
     refine A5o.goO2 A4 rfl ?_
     repeat' first|refine st ?_|((with_reducible apply I5);(· exact hR);(rintro _ _ ⟨rfl,a,b,c,rfl⟩))|refine⟨λ_=>?_,λ_=>?_⟩|fail
     exact⟨rfl,rfl,rfl,rfl,rfl⟩
   ·rintro r os ⟨rfl,h1,h2,h3,h4⟩
    refine .inr ⟨_,[_,.d (eI 0)],rfl,rfl,rfl,λj c x hc hx=>?_⟩
    match j,hc,hx with
    |0,hc,hx=>cases hc;cases hx;exact B17 h1 h2 h3 h4
    |1,hc,hx=>cases hc;cases hx;exact .inl ⟨eI 0,.inl (.inl rfl),rfl⟩
    |j+2,hc,hx=>simp at hc
def TD.runR(x:TD)(i:Nat):List Ch->TD×Nat×Int
 |[]=>(x,i,0)
 |c::r=>if C7 x.t c=0 then TD.runR (x.evoR c) (i+1) r else (O1,i,C7 x.t c)
def TD.runsR(x:TD)(l:List Ch):TD×Nat×Int:=if H9 x.t=0 then TD.runR x.cpR 0 l else (O1,0,H9 x.t)
theorem D71{x:TD}{l:List Ch}{i:Nat}{c:Ch}(h:l[i]?=some c):TD.runR x i (l.drop i)=if C7 x.t c=0 then TD.runR (x.evoR c) (i+1) (l.drop (i+1)) else (O1,i,C7 x.t c):=by
 obtain⟨hlt,he⟩:=A7.1 h
 rw[P7 hlt,he];rfl
theorem C1G:∀(l:List Ch)(x y:TD)(i:Nat),nf x.t=nf y.t->(TD.run x i l).2=(TD.runR y i l).2/\nf (TD.run x i l).1.t=nf (TD.runR y i l).1.t
 |[],x,y,i,h=>⟨rfl,h⟩
 |c::r,x,y,i,h=>by
  have h1:C7 x.t c=C7 y.t c:=by rw[<- A2Z,h,A2Z]
  by_cases hq:C7 x.t c=0
  ·have e1:TD.run x i (c::r)=TD.run (x.evo c) (i+1) r:=by rw[TD.run,if_pos hq]
   have e2:TD.runR y i (c::r)=TD.runR (y.evoR c) (i+1) r:=by rw[TD.runR,if_pos (by rw[<- h1];exact hq)]
   rw[e1,e2]
   refine C1G r (x.evo c) (y.evoR c) (i+1) ?_
   rw[C0L (p8 hq).2.1,<- A4T y.t,<- h,A4T]
   rfl
  ·have e1:TD.run x i (c::r)=(O1,i,C7 x.t c):=by rw[TD.run,if_neg hq]
   have e2:TD.runR y i (c::r)=(O1,i,C7 y.t c):=by rw[TD.runR,if_neg (by rw[<- h1];exact hq)]
   rw[e1,e2,h1]
   exact⟨rfl,rfl⟩
theorem A3V(x:TD)(l:List Ch):(x.runs l).2=(x.runsR l).2/\nf (x.runs l).1.t=nf (x.runsR l).1.t:=by
 unfold TD.runs TD.runsR
 by_cases hq:H9 x.t=0
 ·rw[if_pos hq,if_pos hq]
  exact C1G l x.cp x.cpR 0 (by rw[A8N,D5D])
 ·rw[if_neg hq,if_neg hq]
  exact⟨rfl,rfl⟩
theorem C1H:∀(l:List Ch)(x:TD)(i:Nat),x.ok->(∀c∈l,H6 c)->(TD.runR x i l).1.ok
 |[],x,i,h,_=>h
 |c::r,x,i,h,hc=>by
  unfold TD.runR
  split
  ·rename_i hq
   exact C1H r _ _ (TD.evoR_ok h (hc c (by simp)) hq) λd hd=>hc d (by simp[hd])
  ·exact A1r
theorem A97{x:TD}{l:List Ch}(h:x.ok)(hc:∀c∈l,H6 c):(x.runsR l).1.ok:=by
 unfold TD.runsR
 split
 ·exact C1H l _ _ (TD.cpR_ok h) hc
 ·exact A1r
theorem C1K:∀(l:List Ch)(x:TD)(i:Nat),x.ok->(∀c∈l,H6 c)->(TD.run x i l).1.ok
 |[],x,i,h,_=>h
 |c::r,x,i,h,hc=>by
  unfold TD.run
  split
  ·rename_i hq
   exact C1K r _ _ (TD.evo_ok h (hc c (by simp)) hq) λd hd=>hc d (by simp[hd])
  ·exact A1r
theorem D7a{x:TD}{l:List Ch}(h:x.ok)(hc:∀c∈l,H6 c):(x.runs l).1.ok:=by
 unfold TD.runs
 split
 ·exact C1K l _ _ (TD.cp_ok h) hc
 ·exact A1r
theorem A9B(x:TD)(h:x.ok)(l:List Ch)(hl:l.length<=1048576)(hls:∀c∈l,H6 c)(d:D)(hd:B3 d (I3 l)) :
  Pure Tryz.prog A4l [x.av,.d d] (.tup [(x.runsR l).1.av,.d (eI ((x.runsR l).2.1:Nat)),.d (eI (x.runsR l).2.2)]):=by
 have hT:=A9z x.t x.dc x.dk x.df x.dx h.tok
 obtain⟨R,hR⟩:∃R,R=x.runsR l:=⟨_,rfl⟩
 rw[<- hR]
 unfold TD.runsR at hR
 have h1:=A1d l
 have hm:=A3J l
 have hg0:=λi c=>@A8k l i c
 obtain⟨es,hes⟩:∃es,es=I3 l:=⟨_,rfl⟩
 rw[<- hes] at h1 hm hd hg0
 by_cases hq:H9 x.t=0
 rotate_left
 ·rw[if_neg hq] at hR
  subst hR
  obtain⟨q,hqq⟩:∃q,q=H9 x.t:=⟨_,rfl⟩
  rw[<- hqq] at hT hq ⊢
  refine B3f.go A4 rfl ?_
  repeat' first|refine st ?_|((with_reducible apply C4);conv=>whnf)|refine⟨λ_=>?_,λ_=>?_⟩|fail
  all_goals rfl
 ·rw[if_pos hq] at hR
  rw[hq] at hT
  have hC:=A9A x h
  have hok:=TD.cpR_ok h
  obtain⟨y,hy⟩:∃y,y=x.cpR:=⟨_,rfl⟩
  rw[<- hy] at hC hR hok
  clear hy
  obtain⟨⟨nm,cs,ks,fs,xs⟩,dc,dk,df,dx⟩:=x
  have hC:Bi.Pure Tryz.prog A4k [eT nm dc dk df dx] (eT y.t.nm y.dc y.dk y.df y.dx):=hC
  have hT:Bi.Pure Tryz.prog A7N [eT nm dc dk df dx] (.d (eI 0)):=hT
  refine B3f.go A4 rfl ?_
  repeat' first|refine st ?_|((with_reducible apply C4);conv=>whnf)|refine⟨λ_=>?_,λ_=>?_⟩|fail
  refine I2 A4 C8N C7F (λ(i:Nat) (w:TD)=>[.d (eI i)]) (λi w=>[.cells [.d (.str nm),.d dc,.d dk,.d df,.d dx],.cells [.d (.str []),.d .nil,.d .nil,.d .nil,.d .nil],.cells [.d (.str w.t.nm),.d w.dc,.d w.dk,.d w.df,.d w.dx]]) (λi w=>i<=l.length/\w.ok/\R=TD.runR w i (l.drop i)) (λi w=>l.length-i) 0 y rfl rfl rfl rfl (λ_ _ _=>⟨rfl,rfl⟩) rfl ⟨by omega,hok,hR⟩ ?_
  repeat' first|refine st ?_|((with_reducible apply C4);conv=>whnf)|refine⟨λ_=>?_,λ_=>?_⟩|fail
  intro i w ⟨h4,h5,h6⟩
  cases hx:l[i]? with
  |some c=>
   have hlt:=(A7.1 hx).1
   have hcok:=hls c (B9 hx)
   have hg:=hg0 i c hx
   rw[D71 hx] at h6
   by_cases he:C7 w.t c=0
   ·rw[if_pos he] at h6
    have hA:=B2V w h5 c hcok he
    have hok2:=TD.evoR_ok h5 hcok he
    obtain⟨z,hz⟩:∃z,z=w.evoR c:=⟨_,rfl⟩
    rw[<- hz] at hA h6 hok2
    obtain⟨ck,cnm,to,⟨cn,cck,cl⟩,⟨vk,vn,vs⟩⟩:=c
    have hA:Bi.Pure Tryz.prog A5I [eT w.t.nm w.dc w.dk w.df w.dx,chD ck cnm to cn cck cl vk vn vs] (.tup [eT z.t.nm z.dc z.dk z.df z.dx,.d (eI 0)]):=hA
    clear hR
    repeat' first|refine st ?_|((with_reducible apply C4);conv=>whnf)|refine⟨λ_=>?_,λ_=>?_⟩|fail
    exact⟨i+1,z,rfl,rfl,rfl,by omega,by omega,hok2,h6⟩
   ·rw[if_neg he] at h6
    have hA:=C1l w h5 c hcok he
    subst h6
    obtain⟨q,hqq⟩:∃q,q=C7 w.t c:=⟨_,rfl⟩
    rw[<- hqq] at hA he ⊢
    obtain⟨ck,cnm,to,⟨cn,cck,cl⟩,⟨vk,vn,vs⟩⟩:=c
    have hA:Bi.Pure Tryz.prog A5I [eT w.t.nm w.dc w.dk w.df w.dx,chD ck cnm to cn cck cl vk vn vs] (.tup [eT [] .nil .nil .nil .nil,.d (eI q)]):=hA
    clear hR
    repeat' first|refine st ?_|((with_reducible apply C4);conv=>whnf)|refine⟨λ_=>?_,λ_=>?_⟩|fail
    all_goals rfl
  |none=>
   have hge:=C8.1 hx
   rw[A0V hge] at h6
   have hil:i=l.length:=by omega
   subst h6
   clear hR
   repeat' first|refine st ?_|((with_reducible apply C4);conv=>whnf)|refine⟨λ_=>?_,λ_=>?_⟩|fail
   all_goals (first|rfl|(simp only[TD.runR,hil,h1];done)|(rw[h1,<- hil];rfl))
structure En where
 tm:Int
 tb:List UInt8
 cr:TD
 ch:Ch
abbrev En.ds(e:En):List D:=[eI e.tm,.str e.tb,.str e.cr.t.nm,e.cr.dc,e.cr.dk,e.cr.df,e.cr.dx,eI e.ch.k,.str e.ch.nm,.str e.ch.to,.str e.ch.co.nm,eI e.ch.co.k,.bool e.ch.co.nl,eI e.ch.df.k,eI e.ch.df.n,.str e.ch.df.s]
abbrev En.av(e:En):AV:=.agg [.d (eI e.tm),.d (.str e.tb),.d (.str e.cr.t.nm),.d e.cr.dc,.d e.cr.dk,.d e.cr.df,.d e.cr.dx,.d (eI e.ch.k),.d (.str e.ch.nm),.d (.str e.ch.to),.d (.str e.ch.co.nm),.d (eI e.ch.co.k),.d (.bool e.ch.co.nl),.d (eI e.ch.df.k),.d (eI e.ch.df.n),.d (.str e.ch.df.s)]
structure En.ok(e:En):Prop where
 cr:e.cr.ok
 ch:H6 e.ch
 tb:e.tb.length<=1048576
def D3(l:List En):List (List D):=l.map En.ds
theorem Z4(l:List En):(D3 l).length=l.length:=by simp[D3]
theorem A2i{l:List En}{i:Nat}{e:En}(h:l[i]?=some e):(D3 l)[i]?=some e.ds:=by simp[D3,h]
theorem w9(l:List En):∀e∈D3 l,e.length=16:=by
 intro e he
 obtain⟨x,_,rfl⟩:=D9.1 he
 rfl
theorem D3V(l:List En)(i:Nat):(D3 l).take i=D3 (l.take i):=by simp[D3]
def M7(c:Ch):Bool:=decide (c.k=0)&&(decide (c.nm=[])&&(decide (c.to=[])&&(decide (c.co.nm=[])&&(decide (c.co.k=0)&&(!c.co.nl&&(decide (c.df.k=0)&&(decide (c.df.n=0)&&decide (c.df.s=[]))))))))
theorem B2F(e:En):Pure Tryz.prog B7i [e.av] (.d (.bool (M7 e.ch))):=by
 obtain⟨tm,tb,⟨⟨nm,cs,ks,fs,xs⟩,dc,dk,df,dx⟩,⟨k,cnm,to,⟨cn,ck,cl⟩,⟨vk,vn,vs⟩⟩⟩:=e
 unfold M7
 dsimp only
 refine C5R.go A4 rfl ?_
 repeat' first|refine st ?_|refine⟨λ_=>?_,λ_=>?_⟩|fail
 all_goals first|rfl|(simp_all;done)
theorem A9D(e:En):Pure Tryz.prog B79 [e.av] (.d (.bool (M7 e.ch))):=by
 obtain⟨tm,tb,⟨⟨nm,cs,ks,fs,xs⟩,dc,dk,df,dx⟩,⟨k,cnm,to,⟨cn,ck,cl⟩,⟨vk,vn,vs⟩⟩⟩:=e
 unfold M7
 dsimp only
 refine C5M.go A4 rfl ?_
 repeat' first|refine st ?_|refine⟨λ_=>?_,λ_=>?_⟩|fail
 all_goals first|rfl|(simp_all;done)
abbrev bnE(f:FuncId)(at':Int)(nm:List UInt8):D:=.lit (.func (.func f) ⟨[.agg ⟨[.int .i64 at',.string ⟨⟨nm⟩⟩]⟩]⟩ ⟨[]⟩)
def erB(at':Int)(e:En):Bool:=decide (e.tm<=at')
def V9(at':Int)(nm:List UInt8)(e:En):Bool:=decide (e.tm<=at')&&decide (e.tb=nm)
theorem B35(at':Int)(nm:List UInt8)(e:En):Pure Tryz.prog B0f [.agg [.d (eI at'),.d (.str nm)],e.av] (.d (.bool (erB at' e))):=by
 obtain⟨tm,tb,⟨⟨nm',cs,ks,fs,xs⟩,dc,dk,df,dx⟩,⟨k,cnm,to,⟨cn,ck,cl⟩,⟨vk,vn,vs⟩⟩⟩:=e
 unfold erB
 dsimp only
 refine C5T.go A4 rfl ?_
 repeat' first|refine st ?_|refine⟨λ_=>?_,λ_=>?_⟩|fail
 all_goals first|rfl|(simp_all;done)
theorem B36(at':Int)(nm:List UInt8)(e:En):Pure Tryz.prog A5L [.agg [.d (eI at'),.d (.str nm)],e.av] (.d (.bool (V9 at' nm e))):=by
 have hE:=B35 at' nm e
 obtain⟨tm,tb,⟨⟨nm',cs,ks,fs,xs⟩,dc,dk,df,dx⟩,⟨k,cnm,to,⟨cn,ck,cl⟩,⟨vk,vn,vs⟩⟩⟩:=e
 unfold V9
 unfold erB at hE
 dsimp only at hE ⊢
 refine C5U.go A4 rfl ?_
 cases hb:decide (tm<=at') with
 |false=>
  rw[hb] at hE
  repeat' first|refine st ?_|refine⟨λ_=>?_,λ_=>?_⟩|fail
  all_goals first|rfl|(simp_all;done)
 |true=>
  rw[hb] at hE
  repeat' first|refine st ?_|refine⟨λ_=>?_,λ_=>?_⟩|fail
  all_goals first|rfl|(simp_all;done)
theorem A8r{p:En->Bool}{l:List En}{i:Nat}{e:En}(h:l[i]?=some e):(l.take (i+1)).filter p=(l.take i).filter p++if p e then [e] else []:=by
 rw[P1,h,A3p]
 congr 1
 show List.filter p [e]=_
 cases hp:p e<;>simp[List.filter_cons,hp]
theorem A9w(f:FuncId)(at':Int)(nm:List UInt8)(p:En->Bool)(hf:∀e,Pure Tryz.prog f [.agg [.d (eI at'),.d (.str nm)],e.av] (.d (.bool (p e))))(l:List En)(hl:l.length<=1048576)(d:D)(hd:B3 d (D3 l)) :
  Pure Tryz.prog B0e [.d d,.d (bnE f at' nm)] (.d (B5 (D3 (l.filter p)).isEmpty (D3 (l.filter p)))):=by
 obtain⟨R,hR⟩:∃R,R=D3 (l.filter p):=⟨_,rfl⟩
 rw[<- hR]
 have h1:=Z4 l
 have hm:=w9 l
 have hg0:=λi c=>@A2i l i c
 obtain⟨es,hes⟩:∃es,es=D3 l:=⟨_,rfl⟩
 rw[<- hes] at h1 hm hd hg0
 refine C5S.go A4 rfl ?_
 repeat' first|refine st ?_|refine⟨λ_=>?_,λ_=>?_⟩|fail
 refine A00 5 16 rfl rfl ?_
 refine I2 A4 C94 C7W (λ(i:Nat) (w:List (List D))=>[.arr 0 w.length,.d (eI i)]) (λi w=>[.arr w 16 0 w.isEmpty]) (λi w=>i<=l.length/\w=D3 ((l.take i).filter p)) (λi w=>l.length-i) 0 [] rfl rfl rfl rfl (λ_ _ _=>⟨rfl,rfl⟩) rfl ⟨by omega,rfl⟩ ?_
 repeat' first|refine st ?_|refine⟨λ_=>?_,λ_=>?_⟩|fail
 intro i A ⟨g1,g2⟩
 have hAl:A.length<=i:=by
  rw[g2,Z4]
  exact O4 (A0X ..) (by rw[J1];omega)
 have hAm:∀e∈A,e.length=16:=by rw[g2];exact w9 _
 cases hx:l[i]? with
 |some e=>
  have hlt:=(A7.1 hx).1
  have hg:=hg0 i e hx
  have hF:=hf e
  have hs:D3 ((l.take (i+1)).filter p)=A++(if p e then [e.ds] else []):=by
   rw[A8r hx,g2]
   unfold D3
   rw[A0s]
   congr 1
   split<;>rfl
  cases hp:p e with
  |true=>
   rw[hp] at hF hs
   obtain⟨tm,tb,⟨⟨nm',cs,ks,fs,xs⟩,dc,dk,df,dx⟩,⟨k,cnm,to,⟨cn,ck,cl⟩,⟨vk,vn,vs⟩⟩⟩:=e
   clear g2 hR hp
   repeat' first|refine st ?_|refine⟨λ_=>?_,λ_=>?_⟩|fail
   exact⟨i+1,A++[_],rfl,rfl,by first|rfl|(simp;done),by omega,by omega,hs.symm⟩
  |false=>
   rw[hp] at hF hs
   obtain⟨tm,tb,⟨⟨nm',cs,ks,fs,xs⟩,dc,dk,df,dx⟩,⟨k,cnm,to,⟨cn,ck,cl⟩,⟨vk,vn,vs⟩⟩⟩:=e
   clear g2 hR hp
   repeat' first|refine st ?_|refine⟨λ_=>?_,λ_=>?_⟩|fail
   exact⟨i+1,A,rfl,rfl,rfl,by omega,by omega,by rw[hs];simp⟩
 |none=>
  have hge:=C8.1 hx
  rw[J5 hge,<- hR] at g2
  subst g2
  clear hR
  repeat' first|refine st ?_|refine⟨λ_=>?_,λ_=>?_⟩|fail
  all_goals first|rfl|(cases A<;>rfl)
def A31:List En->Bool
 |[]=>false
 |e::_=>M7 e.ch
def A1j:List En->TD
 |[]=>O1
 |e::_=>if M7 e.ch then e.cr else O1
def V0(l:List En):List Ch:=if A31 l then l.tail.map En.ch else []
theorem B2G(l:List En)(hl:l.length<=1048576)(d:D)(hd:B3 d (D3 l)) :
  Pure Tryz.prog B0d [.d d] (.tup [(A1j l).av,.d (B5 (I3 (V0 l)).isEmpty (I3 (V0 l))),.d (.bool (A31 l))]):=by
 cases l with
 |nil=>
  have hd:B3 d []:=hd
  refine A9M.go A4 rfl ?_
  have h0:([]:List (List D)).length=0:=rfl
  rcases hd with ⟨rfl,_⟩|rfl
  ·repeat' first|refine st ?_|refine⟨λ_=>?_,λ_=>?_⟩|fail
   all_goals rfl
  ·repeat' first|refine st ?_|refine⟨λ_=>?_,λ_=>?_⟩|fail
   all_goals rfl
 |cons e r=>
  have hd:d=.sl (D3 (e::r)):=by
   rcases hd with ⟨_,h⟩|h
   ·cases h
   ·exact h
  subst hd
  have hC:=B2F e
  have hg:(D3 (e::r))[((0:Int)).toNat]?=some e.ds:=rfl
  have hln:(D3 (e::r)).length=r.length+1:=by rw[Z4,H7]
  have hp:List.take (((D3 (e::r)).length:Int).toNat-((1:Int)).toNat) (List.drop ((1:Int)).toNat (D3 (e::r)))=D3 r:=by
   rw[hln]
   show List.take (r.length+1-1) (D3 r)=_
   rw[J5 (by rw[Z4];omega)]
  have hm:=w9 (e::r)
  simp only[H7] at hl
  have h1:=Z4 r
  have hm1:=w9 r
  have hg0:=λi c=>@A2i r i c
  obtain⟨Es,hEs⟩:∃z,z=D3 (e::r):=⟨_,rfl⟩
  obtain⟨es,hes⟩:∃es,es=D3 r:=⟨_,rfl⟩
  rw[<- hEs] at hg hln hp hm ⊢
  rw[<- hes] at h1 hm1 hg0 hp
  clear hEs hes
  cases hb:M7 e.ch with
  |false=>
   rw[hb] at hC
   have e1:A1j (e::r)=O1:=by show(if M7 e.ch=true then e.cr else O1)=O1;rw[hb];rfl
   have e2:A31 (e::r)=false:=hb
   have e3:V0 (e::r)=[]:=by unfold V0;rw[e2];rfl
   rw[e1,e2,e3]
   clear e1 e2 e3 hb
   obtain⟨tm,tb,⟨⟨nm',cs,ks,fs,xs⟩,dc,dk,df,dx⟩,⟨k,cnm,to,⟨cn,ck,cl⟩,⟨vk,vn,vs⟩⟩⟩:=e
   refine A9M.go A4 rfl ?_
   repeat' first|refine st ?_|refine⟨λ_=>?_,λ_=>?_⟩|fail
   all_goals rfl
  |true=>
   rw[hb] at hC
   have e1:A1j (e::r)=e.cr:=by show(if M7 e.ch=true then e.cr else O1)=e.cr;rw[hb];rfl
   have e2:A31 (e::r)=true:=hb
   have e3:V0 (e::r)=r.map En.ch:=by unfold V0;rw[e2];rfl
   rw[e1,e2,e3]
   clear e1 e2 e3 hb
   obtain⟨R,hR⟩:∃R,R=I3 (r.map En.ch):=⟨_,rfl⟩
   rw[<- hR]
   obtain⟨tm,tb,⟨⟨nm',cs,ks,fs,xs⟩,dc,dk,df,dx⟩,⟨k,cnm,to,⟨cn,ck,cl⟩,⟨vk,vn,vs⟩⟩⟩:=e
   refine A9M.go A4 rfl ?_
   repeat' first|(rw[hp])|refine st ?_|refine⟨λ_=>?_,λ_=>?_⟩|fail
   refine A00 5 9 rfl rfl ?_
   refine I2 A4 C93 C7V (λ(i:Nat) (w:List (List D))=>[.arr 1 w.length,.d (eI i)]) (λi w=>[.cells [.d (.str []),.d .nil,.d .nil,.d .nil,.d .nil],.arr w 9 0 w.isEmpty]) (λi w=>i<=r.length/\w=I3 ((r.take i).map En.ch)) (λi w=>r.length-i) 0 [] rfl rfl rfl rfl (λ_ _ _=>⟨rfl,rfl⟩) rfl ⟨by omega,rfl⟩ ?_
   repeat' first|refine st ?_|refine⟨λ_=>?_,λ_=>?_⟩|fail
   intro i A ⟨g1,g2⟩
   have hAl:A.length=i:=by rw[g2,A1d,C6,J1];omega
   have hAm:∀e∈A,e.length=9:=by rw[g2];exact A3J _
   cases hx:r[i]? with
   |some y=>
    have hlt:=(A7.1 hx).1
    have hgy:=hg0 i y hx
    have hs:A++[A62 y.ch]=I3 ((r.take (i+1)).map En.ch):=by rw[g2,P1,hx];simp[I3]
    obtain⟨tm2,tb2,⟨⟨nm2,cs2,ks2,fs2,xs2⟩,dc2,dk2,df2,dx2⟩,⟨k2,cnm2,to2,⟨cn2,ck2,cl2⟩,⟨vk2,vn2,vs2⟩⟩⟩:=y
    clear g2 hR
    repeat' first|refine st ?_|refine⟨λ_=>?_,λ_=>?_⟩|fail
    exact⟨i+1,A++[_],rfl,rfl,by first|rfl|(simp;done),by omega,by omega,hs⟩
   |none=>
    have hge:=C8.1 hx
    rw[J5 hge,<- hR] at g2
    subst g2
    clear hR
    repeat' first|refine st ?_|refine⟨λ_=>?_,λ_=>?_⟩|fail
    all_goals first|rfl|(cases A<;>rfl)
theorem C00{l:List En}(h:∀e∈l,e.ok):(A1j l).ok:=by
 cases l with
 |nil=>exact A1r
 |cons e r=>
  show(if M7 e.ch=true then e.cr else O1).ok
  split
  ·exact(h e (by simp)).cr
  ·exact A1r
theorem B9Z{l:List En}(h:∀e∈l,e.ok):∀c∈V0 l,H6 c:=by
 intro c hc
 unfold V0 at hc
 split at hc
 ·obtain⟨e,he,rfl⟩:=D9.1 hc
  exact(h e (List.mem_of_mem_tail he)).ch
 ·cases hc
theorem D4P(l:List En):(V0 l).length<=l.length:=by
 unfold V0
 split
 ·rw[C6,List.length_tail];omega
 ·simp
def E5(at':Int)(nm:List UInt8)(c:List En):List En:=c.filter (V9 at' nm)
theorem A4X(at':Int)(nm:List UInt8)(c:List En):(E5 at' nm c).length<=c.length:=A0X ..
theorem A3b{at':Int}{nm:List UInt8}{c:List En}(h:∀e∈c,e.ok):∀e∈E5 at' nm c,e.ok:=λe he=>h e (v6.1 he).1
def P0(s:List En):TD×Nat×Bool:=if A31 s then (((A1j s).runs (V0 s)).1,((A1j s).runs (V0 s)).2.1,decide (((A1j s).runs (V0 s)).2.2=0)) else (O1,0,false)
theorem A9v(c:List En)(hc:c.length<=1048576)(hok:∀e∈c,e.ok)(d:D)(hd:B3 d (D3 c))(at':Int)(nm:List UInt8) :
  Pure Tryz.prog A5K [.d d,.d (eI at'),.d (.str nm)] (.tup [(P0 (E5 at' nm c)).1.av,.d (eI ((P0 (E5 at' nm c)).2.1:Nat)),.d (.bool (P0 (E5 at' nm c)).2.2)]):=by
 have hS:=A9w A5L at' nm (V9 at' nm) (B36 at' nm) c hc d hd
 have hsl:=A4X at' nm c
 have hso:=A3b (at':=at') (nm:=nm) hok
 rw[show c.filter (V9 at' nm)=E5 at' nm c from rfl] at hS
 obtain⟨s,hs⟩:∃s,s=E5 at' nm c:=⟨_,rfl⟩
 rw[<- hs] at hS hsl hso ⊢
 have hH:=B2G s (by omega) (B5 (D3 s).isEmpty (D3 s)) (W3 λe=>u9.1 e)
 have hcl:=D4P s
 have hR:=C3r (A1j s) (C00 hso) (V0 s) (by omega) (B9Z hso) (B5 (I3 (V0 s)).isEmpty (I3 (V0 s))) (W3 λe=>u9.1 e)
 obtain⟨q,hq⟩:∃q,q=P0 s:=⟨_,rfl⟩
 rw[<- hq]
 unfold P0 at hq
 obtain⟨T,hT⟩:∃T,T=A1j s:=⟨_,rfl⟩
 rw[<- hT] at hH hR hq
 obtain⟨dl,hdl⟩:∃z,z=B5 (I3 (V0 s)).isEmpty (I3 (V0 s)):=⟨_,rfl⟩
 rw[<- hdl] at hH hR
 obtain⟨de,hde⟩:∃z,z=B5 (D3 s).isEmpty (D3 s):=⟨_,rfl⟩
 rw[<- hde] at hS hH
 obtain⟨⟨y,n,e⟩,hy⟩:∃z,z=T.runs (V0 s):=⟨_,rfl⟩
 rw[<- hy] at hR hq
 dsimp only at hR hq
 clear hs hT hdl hde hy hso
 cases hb:A31 s with
 |false=>
  rw[hb] at hH hq
  rw[if_neg (by decide)] at hq
  subst hq
  obtain⟨⟨tn,cs,ks,fs,xs⟩,dc,dk,df,dx⟩:=T
  refine B3k.go A4 rfl ?_
  repeat' first|refine st ?_|refine⟨λ_=>?_,λ_=>?_⟩|fail
  all_goals rfl
 |true=>
  rw[hb] at hH hq
  rw[if_pos rfl] at hq
  subst hq
  obtain⟨⟨tn,cs,ks,fs,xs⟩,dc,dk,df,dx⟩:=T
  have hR:Bi.Pure Tryz.prog B0h [eT tn dc dk df dx,.d dl] (.tup [eT y.t.nm y.dc y.dk y.df y.dx,.d (eI n),.d (eI e)]):=hR
  refine B3k.go A4 rfl ?_
  repeat' first|refine st ?_|refine⟨λ_=>?_,λ_=>?_⟩|fail
  all_goals rfl
theorem C0J{s:List En}(h:∀e∈s,e.ok):(P0 s).1.ok:=by
 unfold P0
 split
 ·exact D7a (C00 h) (B9Z h)
 ·exact A1r
theorem A9u(c:List En)(hc:c.length<=1048576)(hok:∀e∈c,e.ok)(d:D)(hd:B3 d (D3 c))(at':Int)(nm:List UInt8) :
  Pure Tryz.prog A5J [.d d,.d (eI at'),.d (.str nm)] (if (P0 (E5 at' nm c)).2.2 then .tup [(P0 (E5 at' nm c)).1.av,.d (eI ((P0 (E5 at' nm c)).2.1:Nat)),.d (eI 0)] else .tup [O1.av,.d (eI 0),.d (eI 11)]):=by
 have hN:=A9v c hc hok d hd at' nm
 obtain⟨⟨y,n,b⟩,hq⟩:∃q,q=P0 (E5 at' nm c):=⟨_,rfl⟩
 rw[<- hq] at hN ⊢
 dsimp only at hN ⊢
 have hN:Bi.Pure Tryz.prog A5K [.d d,.d (eI at'),.d (.str nm)] (.tup [eT y.t.nm y.dc y.dk y.df y.dx,.d (eI n),.d (.bool b)]):=hN
 clear hq
 cases b with
 |false=>
  rw[if_neg (by decide)]
  refine B3i.go A4 rfl ?_
  repeat' first|refine st ?_|refine⟨λ_=>?_,λ_=>?_⟩|fail
  all_goals rfl
 |true=>
  rw[if_pos rfl]
  refine B3i.go A4 rfl ?_
  repeat' first|refine st ?_|refine⟨λ_=>?_,λ_=>?_⟩|fail
  all_goals rfl
def Y1(c:List En)(at':Int):Int:=
 if at'<0\/1099511627776<=at' then 6 else match c[c.length-1]? with
  |none=>0
  |some e=>if at'<e.tm then 9 else 0
theorem B2E(c:List En)(hc:c.length<=1048576)(d:D)(hd:B3 d (D3 c))(at':Int):Pure Tryz.prog B7h [.d d,.d (eI at')] (.d (eI (Y1 c at'))):=by
 have h1:=Z4 c
 have hm:=w9 c
 have hg0:=λi e=>@A2i c i e
 obtain⟨q,hq⟩:∃q,q=Y1 c at':=⟨_,rfl⟩
 rw[<- hq]
 unfold Y1 at hq
 obtain⟨es,hes⟩:∃es,es=D3 c:=⟨_,rfl⟩
 rw[<- hes] at h1 hm hg0 hd
 clear hes
 by_cases g1:at'<0
 ·rw[if_pos (.inl g1)] at hq
  subst hq
  refine A5s.go A4 rfl ?_
  repeat' first|refine st ?_|refine⟨λ_=>?_,λ_=>?_⟩|fail
  all_goals rfl
 by_cases g2:1099511627776<=at'
 ·rw[if_pos (.inr g2)] at hq
  subst hq
  refine A5s.go A4 rfl ?_
  repeat' first|refine st ?_|refine⟨λ_=>?_,λ_=>?_⟩|fail
  all_goals rfl
 rw[if_neg (by omega)] at hq
 cases hx:c[c.length-1]? with
 |none=>
  rw[hx] at hq
  have hge:=C8.1 hx
  dsimp only at hq
  subst hq
  have h0:es.length=0:=by omega
  refine A5s.go A4 rfl ?_
  repeat' first|refine st ?_|refine⟨λ_=>?_,λ_=>?_⟩|fail
  all_goals rfl
 |some e=>
  rw[hx] at hq
  dsimp only at hq
  have hlt:=(A7.1 hx).1
  have hg:es[((es.length:Int)-1).toNat]?=some e.ds:=by rw[show((es.length:Int)-1).toNat=c.length-1 by omega];exact hg0 _ e hx
  have hl:0<es.length:=by omega
  obtain⟨tm,tb,⟨⟨nm',cs,ks,fs,xs⟩,dc,dk,df,dx⟩,⟨k,cnm,to,⟨cn,ck,cl⟩,⟨vk,vn,vs⟩⟩⟩:=e
  dsimp only at hq
  by_cases g3:at'<tm
  ·rw[if_pos g3] at hq
   subst hq
   refine A5s.go A4 rfl ?_
   repeat' first|refine st ?_|refine⟨λ_=>?_,λ_=>?_⟩|fail
   all_goals rfl
  ·rw[if_neg g3] at hq
   subst hq
   refine A5s.go A4 rfl ?_
   repeat' first|refine st ?_|refine⟨λ_=>?_,λ_=>?_⟩|fail
   all_goals rfl
def s9(s:List En):TD:=s.foldl (λt e=>if M7 e.ch then e.cr else t) O1
def T8(s:List En):List Ch:=(s.filter λe=>!M7 e.ch).map En.ch
def rhB(s:List En):Bool:=s.any λe=>M7 e.ch
theorem D7e{at':Int}{nm:List UInt8}{c:List En}{i:Nat}{e:En}(h:c[i]?=some e):E5 at' nm (c.take (i+1))=E5 at' nm (c.take i)++if V9 at' nm e then [e] else []:=A8r h
theorem A9E(c:List En)(hc:c.length<=1048576)(d:D)(hd:B3 d (D3 c))(at':Int)(nm:List UInt8) :
  Pure Tryz.prog A7R [.d d,.d (eI at'),.d (.str nm)] (.tup [(s9 (E5 at' nm c)).av,.d (.sl (I3 (T8 (E5 at' nm c)))),.d (.bool (rhB (E5 at' nm c)))]):=by
 have h1:=Z4 c
 have hm:=w9 c
 have hg0:=λi e=>@A2i c i e
 obtain⟨es,hes⟩:∃es,es=D3 c:=⟨_,rfl⟩
 rw[<- hes] at h1 hm hg0 hd
 clear hes
 obtain⟨S,hS⟩:∃S,S=E5 at' nm c:=⟨_,rfl⟩
 rw[<- hS]
 refine C5N.go A4 rfl ?_
 repeat' first|refine st ?_|refine⟨λ_=>?_,λ_=>?_⟩|fail
 refine I2 A4 C8Z C7R (λ(i:Nat) (w:List (List D)×TD×Bool)=>[.arr 2 w.1.length,.d (.bool w.2.2),.d (eI i)]) (λi w=>[.cells [.d (.str []),.d .nil,.d .nil,.d .nil,.d .nil],.cells [.d (.str w.2.1.t.nm),.d w.2.1.dc,.d w.2.1.dk,.d w.2.1.df,.d w.2.1.dx],.arr w.1 9 0 false]) (λi w=>i<=c.length/\w.1=I3 (T8 (E5 at' nm (c.take i)))/\w.2.1=s9 (E5 at' nm (c.take i))/\w.2.2=rhB (E5 at' nm (c.take i))) (λi w=>c.length-i) 0 ([],O1,false) rfl rfl rfl rfl (λ_ _ _=>⟨rfl,rfl⟩) rfl ⟨by omega,rfl,rfl,rfl⟩ ?_
 repeat' first|refine st ?_|refine⟨λ_=>?_,λ_=>?_⟩|fail
 intro i w ⟨g1,g2,g3,g4⟩
 obtain⟨A,T,b⟩:=w
 dsimp only at g2 g3 g4 ⊢
 have hAl:A.length<=i:=by
  rw[g2,A1d]
  unfold T8
  rw[C6]
  exact O4 (A0X ..) (O4 (A4X ..) (by rw[J1];omega))
 have hAm:∀e∈A,e.length=9:=by rw[g2];exact A3J _
 cases hx:c[i]? with
 |some e=>
  have hlt:=(A7.1 hx).1
  have hg:es[((i:Nat):Int).toNat]?=some e.ds:=hg0 i e hx
  have hil:(i:Int)<es.length:=by omega
  have hC:=A9D e
  have hs:=D7e (at':=at') (nm:=nm) hx
  have s1:A++(if V9 at' nm e&&!M7 e.ch then [A62 e.ch] else [])=I3 (T8 (E5 at' nm (c.take (i+1)))):=by
   rw[g2,hs]
   unfold T8
   rw[A3p,A0s]
   unfold I3
   rw[A0s]
   congr 1
   cases V9 at' nm e<;>cases hc:M7 e.ch<;>simp[hc]
  have s2:(if V9 at' nm e&&M7 e.ch then e.cr else T)=s9 (E5 at' nm (c.take (i+1))):=by
   rw[g3,hs]
   unfold s9
   rw[A2I]
   cases V9 at' nm e<;>cases hc:M7 e.ch<;>simp[hc]
  have s3:(b||(V9 at' nm e&&M7 e.ch))=rhB (E5 at' nm (c.take (i+1))):=by
   rw[g4,hs]
   unfold rhB
   rw[List.any_append]
   cases V9 at' nm e<;>cases hc:M7 e.ch<;>simp[hc]
  clear g2 g3 g4 hs
  unfold V9 at s1 s2 s3
  by_cases q1:at'<e.tm
  ·rw[decide_eq_false (by omega)] at s1 s2 s3
   simp only[A2G,Bool.or_false,L8,if_false,u7] at s1 s2 s3
   obtain⟨tm,tb,⟨⟨nm',cs,ks,fs,xs⟩,dc,dk,df,dx⟩,⟨k,cnm,to,⟨cn,ck,cl⟩,⟨vk,vn,vs⟩⟩⟩:=e
   dsimp only at q1
   repeat' first|refine st ?_|refine⟨λ_=>?_,λ_=>?_⟩|fail
   all_goals exact⟨i+1,(A,T,b),rfl,rfl,rfl,by omega,by omega,s1,s2,s3⟩
  rw[decide_eq_true (show e.tm<=at' by omega)] at s1 s2 s3
  by_cases q2:e.tb=nm
  rotate_left
  ·rw[decide_eq_false q2] at s1 s2 s3
   simp only[Bool.and_false,A2G,Bool.or_false,L8,if_false,u7] at s1 s2 s3
   obtain⟨tm,tb,⟨⟨nm',cs,ks,fs,xs⟩,dc,dk,df,dx⟩,⟨k,cnm,to,⟨cn,ck,cl⟩,⟨vk,vn,vs⟩⟩⟩:=e
   dsimp only at q1 q2
   repeat' first|refine st ?_|refine⟨λ_=>?_,λ_=>?_⟩|fail
   all_goals exact⟨i+1,(A,T,b),rfl,rfl,rfl,by omega,by omega,s1,s2,s3⟩
  rw[decide_eq_true q2] at s1 s2 s3
  cases q3:M7 e.ch with
  |true=>
   rw[q3] at s1 s2 s3 hC
   simp only[Bool.and_true,Y9,Bool.not_true,Bool.or_true,L8,if_false,if_true,u7] at s1 s2 s3
   clear q3
   obtain⟨tm,tb,⟨⟨nm',cs,ks,fs,xs⟩,dc,dk,df,dx⟩,⟨k,cnm,to,⟨cn,ck,cl⟩,⟨vk,vn,vs⟩⟩⟩:=e
   dsimp only at q1 q2
   subst q2
   have r1:tb=tb:=rfl
   repeat' first|refine st ?_|refine⟨λ_=>?_,λ_=>?_⟩|fail
   all_goals exact⟨i+1,(A,⟨⟨nm',cs,ks,fs,xs⟩,dc,dk,df,dx⟩,true),rfl,rfl,rfl,by omega,by omega,s1,s2,s3⟩
  |false=>
   rw[q3] at s1 s2 s3 hC
   simp only[Bool.and_true,Bool.and_false,Y9,Bool.not_false,Bool.or_false,L8,if_false,if_true] at s1 s2 s3
   clear q3
   obtain⟨tm,tb,⟨⟨nm',cs,ks,fs,xs⟩,dc,dk,df,dx⟩,⟨k,cnm,to,⟨cn,ck,cl⟩,⟨vk,vn,vs⟩⟩⟩:=e
   dsimp only at q1 q2
   subst q2
   have r1:tb=tb:=rfl
   repeat' first|refine st ?_|refine⟨λ_=>?_,λ_=>?_⟩|fail
   all_goals exact⟨i+1,(A++[_],T,b),rfl,rfl,rfl,by omega,by omega,s1,s2,s3⟩
 |none=>
  have hge:=C8.1 hx
  rw[J5 hge,<- hS] at g2 g3 g4
  rw[<- g2,<- g3,<- g4]
  have hil:(es.length:Int)<=i:=by omega
  clear g2 g3 g4
  repeat' first|refine st ?_|refine⟨λ_=>?_,λ_=>?_⟩|fail
  all_goals rfl
end Go.Proofs
end
section
namespace Go.Bi
open Go Go.Proofs Go.Sort Go.Shelf
section
variable {P:Program}{M:C2}{G:Gh}{os:List AO}{w w':World}
def I0(zs:List (List UInt8)):List (List D):=zs.map λz=>[.str z]
theorem A0Q(zs:List (List UInt8)):(I0 zs).length=zs.length:=by simp[I0]
theorem A9c(zs:List (List UInt8)):∀e∈I0 zs,e.length=1:=by
 intro e he
 obtain⟨z,_,rfl⟩:=D9.1 he
 rfl
theorem D6Y(he:C0 M G os w){id:Nat}{zs ys:List (List UInt8)}(ho:os[id]?=some (.arr (I0 zs) 1 0 false))(hlen:ys.length=zs.length)(n:Nat) :
  C0 M G (os.set id (.arr (I0 ys) 1 0 false)) (putRow encStr (Sort.ahead w n) (G.blk id) 0 ys.toArray)/\D6 M G os w M G (os.set id (.arr (I0 ys) 1 0 false)) (putRow encStr (Sort.ahead w n) (G.blk id) 0 ys.toArray):=by
 obtain⟨h1,h2,h3,h4,h5⟩:=he.obj id _ ho
 obtain⟨ca,t,h6,h7,h8,h9,h10,h11⟩:=h5 rfl
 have hlt:=(A7.1 ho).1
 have hno:∀a v,M a=some v->a.block=G.blk id->False:=λa v ha hb=>by
  obtain⟨es',sz',frz',nl',h12,h13⟩:=he.sep id a v (E3.arr ho) ha hb
  rw[ho] at h12
  cases h12
  omega
 have hk:M5 G G id (os.set id (.arr (I0 ys) 1 0 false)) (.arr (I0 zs) 1 0 false):=⟨I0 ys,0,false,by simp[hlt],by rw[A0Q,A0Q];omega,λ_=>⟨rfl,rfl,rfl⟩⟩
 have hoth:∀b,b≠G.blk id->(putRow encStr (Sort.ahead w n) (G.blk id) 0 ys.toArray).heap[b]?=w.heap[b]?:=λb hb=>C0v _ _ b hb
 have hs:=n8 he (w':=putRow encStr (Sort.ahead w n) (G.blk id) 0 ys.toArray) (M':=M) ho rfl rfl rfl rfl (by simp) hoth (λ_ _ h=>h) (λ_ _ h=>.inl h) hk
 refine⟨x6 he ho rfl rfl rfl rfl (by simp) hoth (λ_ _ h=>h) (λ_ _ h=>.inl h) hk (λ_ _=>rfl) (λa v ha hb=>(hno a v ha hb).elim) (λa v ha hb=>(hno a v ha hb).elim) ?_,hs⟩
 rw[A0Q] at h8
 refine⟨h1,A9c ys,R1 _,λh=>(by cases h),λ_=>⟨putCells encStr 0 ys.toArray ca,t,?_,?_,?_,h9,λi j e x hi hj=>?_,λo ho=>(by omega)⟩⟩
 ·show(mapBlock (Sort.ahead w n) (G.blk id) _).heap[G.blk id]?=_
  unfold mapBlock
  simp only[A59,if_true]
  show Option.map _ w.heap[G.blk id]?=_
  rw[h6];rfl
 ·unfold putCells
  rw[Array.size_mapIdx,h7]
 ·rw[A0Q];omega
 ·obtain⟨z,hz,rfl⟩:∃z,ys[i]?=some z/\e=[.str z]:=by
   unfold I0 at hi
   rw[F8] at hi
   cases hy:ys[i]? with
   |none=>rw[hy] at hi;cases hi
   |some z=>rw[hy] at hi;cases hi;exact⟨z,rfl,rfl⟩
  have hil:=(A7.1 hz).1
  cases j with
  |succ j=>cases hj
  |zero=>
   cases hj
   refine⟨encStr z,?_,.str _⟩
   unfold putCells
   have hic:i*1+0<ca.size:=by rw[h7];omega
   rw[Array.getElem?_mapIdx,J4 hic,A10,if_pos (by simp;omega)]
   have:ys.toArray[i*1+0-0]! = z:=by
    have e:i*1+0-0=i:=by omega
    rw[e,getElem!_pos _ i (by simpa using hil)]
    simpa using(A7.1 hz).2
   rw[this]
theorem D6Z(he:C0 M G os w){id:Nat}{zs:List (List UInt8)}(ho:os[id]?=some (.arr (I0 zs) 1 0 false)):Holds encStr w (G.blk id) 0 zs.toArray:=by
 obtain⟨h1,h2,h3,h4,h5⟩:=he.obj id _ ho
 obtain⟨ca,t,h6,h7,h8,h9,h10,h11⟩:=h5 rfl
 intro j hj
 have hj':j<zs.length:=by simpa using hj
 have hz:(I0 zs)[j]?=some [.str zs[j]]:=by unfold I0;rw[F8,C3 hj'];rfl
 obtain⟨u,hu,hr⟩:=h10 j 0 _ _ hz rfl
 cases hr
 rw[Nat.mul_one,A1y] at hu
 refine⟨?_,?_⟩
 ·have:zs.toArray[j]! = zs[j]:=by rw[getElem!_pos _ j hj];simp
  rw[this,v7]
  unfold World.cell?
  rw[h6]
  simpa using hu
 ·unfold World.frozen?
  rw[h6]
  simp
theorem D7n{ρ:Ren}(L:Lays.n190 P ρ)(he:Enters P (ρ.f 190))(zs:List (List UInt8))(nl:Bool)(hz:zs.length<4611686018427387904) :
  B0 P (ρ.f 190) [.arr 0 (I0 zs).length] [.arr (I0 zs) 1 0 nl] (λr os'=>r=.tup []/\os'=[.arr (I0 (zs.mergeSort λx y=>decide (x<=y))) 1 0 nl]):=by
 refine⟨he,λM G w vs hE hl hv=>?_⟩
 obtain⟨v,rfl⟩:∃v,vs=#[v]:=by
  obtain⟨l⟩:=vs
  match l,hl with
  |[x],_=>exact⟨x,rfl⟩
 have hval:=hv 0 _ v rfl rfl
 obtain⟨h0,es,sz,frz,nl',h1,h2,h3⟩:=hval
 cases h1
 have hv:=h3 rfl
 subst hv
 unfold Gh.slv
 cases nl with
 |true=>
  have hnil:I0 zs=[]:=(hE.obj 0 _ rfl).2.2.2.1 rfl
  have hzs:zs=[]:=by unfold I0 at hnil;simpa using hnil
  subst hzs
  rw[if_pos rfl]
  refine(Any.slices_Sort_string_none L none 0 w).mono ?_
  rintro e w' ⟨rfl,rfl⟩
  exact⟨_,rfl,M,G,.tup [],_,hE,D6.refl ..,⟨#[],rfl,rfl,by simp⟩,rfl,by simp⟩
 |false=>
  rw[if_neg (by decide),A0Q]
  have hlt:=OR.live_lt hE (id:=0) rfl rfl
  refine(Any.slices_Sort_string L (G.blk 0) 0 (G.cap 0) zs w (D6Z hE (id:=0) rfl) hlt hz).mono ?_
  rintro e w' ⟨rfl,n,xs,rfl⟩
  obtain⟨e1,s1⟩:=D6Y hE (id:=0) (ys:=zs.mergeSort λx y=>decide (x<=y)) rfl (by simp) n
  have hh:∀b,b<(putRow encStr (Sort.ahead w n) (G.blk 0) 0 (zs.mergeSort λx y=>decide (x<=y)).toArray).heap.size->(grow (putRow encStr (Sort.ahead w n) (G.blk 0) 0 (zs.mergeSort λx y=>decide (x<=y)).toArray) xs).heap[b]?=(putRow encStr (Sort.ahead w n) (G.blk 0) 0 (zs.mergeSort λx y=>decide (x<=y)).toArray).heap[b]?:=λb hb=>by
   unfold grow
   exact A27 hb
  refine⟨_,rfl,M,G,.tup [],_,B1c e1 rfl rfl rfl (by simp[grow]) hh,s1.trans (A74 rfl rfl rfl (by simp[grow]) hh),⟨#[],rfl,rfl,by simp⟩,rfl,rfl⟩
end
end Go.Bi
namespace Go.Proofs
open Go.Bi
theorem C21{l:List (List UInt8)}{i:Nat}{r:List UInt8}(h:l[i]?=some r):(I0 l)[i]?=some [.str r]:=by simp[I0,h]
theorem D48:Bi.Enters Tryz.prog B7P:=⟨_,Tryz.func96,by kernel_rfl,by decide⟩
def W4(zs:List (List UInt8)):List (List UInt8):=zs.mergeSort λx y=>decide (x<=y)
theorem C4K(zs:List (List UInt8))(nl:Bool)(hz:zs.length<4611686018427387904){os:List AO}{id:Nat}(ho:os[id]?=some (.arr (I0 zs) 1 0 nl)) :
  B0 Tryz.prog B7P [.arr id (I0 zs).length] os (λr os'=>r=.tup []/\os'=os.set id (.arr (I0 (W4 zs)) 1 0 nl)):=
 B1F (λid=>[.arr id (I0 zs).length]) (D7n Tryz.lays190 D48 zs nl hz) (λ_=>rfl) (λ_=>rfl) (λ_=>rfl) (λ_ _=>rfl) (by simp[AV.bnd2,AV.bnd1]) (B0P ..) ho
end Go.Proofs
end
section
namespace Go.Proofs
open Go.Bi
def crE(e:En):Bool:=M7 e.ch
def Q1(at':Int)(c:List En):List (List UInt8):=((c.filter (erB at')).filter crE).map En.tb
theorem D3v{at':Int}{c:List En}{i:Nat}{e:En}(h:c[i]?=some e):Q1 at' (c.take (i+1))=Q1 at' (c.take i)++if erB at' e&&crE e then [e.tb] else []:=by
 unfold Q1
 rw[A8r h,A3p,A0s]
 congr 1
 cases erB at' e<;>cases hc:crE e<;>simp[hc]
theorem B14(at':Int)(c:List En):(Q1 at' c).length<=c.length:=by
 unfold Q1
 rw[C6]
 exact O4 (A0X ..) (A0X ..)
def stD(l:List (List UInt8)):D:=B5 (I0 l).isEmpty (I0 l)
theorem B2f(l:List (List UInt8)):(W4 l).length=l.length:=by simp[W4]
theorem C38(c:List En)(hc:c.length<=1048576)(d:D)(hd:B3 d (D3 c))(at':Int):Pure Tryz.prog B7e [.d d,.d (eI at')] (.d (stD (W4 (Q1 at' c)))):=by
 have hS:=A9w B0f at' [] (erB at') (B35 at' []) c hc d hd
 have hsl:(c.filter (erB at')).length<=c.length:=A0X ..
 obtain⟨S,hSS⟩:∃S,S=c.filter (erB at'):=⟨_,rfl⟩
 rw[<- hSS] at hS hsl
 obtain⟨N',hN⟩:∃N',N'=Q1 at' c:=⟨_,rfl⟩
 have hNe:N'=(S.filter crE).map En.tb:=by rw[hN,hSS];rfl
 have hNl:N'.length<=1048576:=by rw[hN];have:=B14 at' c;omega
 rw[<- hN]
 clear hN hSS
 have h1:=Z4 S
 have hm:=w9 S
 have hg0:=λi e=>@A2i S i e
 have hsd:B3 (B5 (D3 S).isEmpty (D3 S)) (D3 S):=W3 λe=>u9.1 e
 obtain⟨de,hde⟩:∃z,z=B5 (D3 S).isEmpty (D3 S):=⟨_,rfl⟩
 rw[<- hde] at hS hsd
 obtain⟨es,hes⟩:∃es,es=D3 S:=⟨_,rfl⟩
 rw[<- hes] at h1 hm hg0 hsd
 clear hes hde
 refine C5Q.go A4 rfl ?_
 repeat' first|refine st ?_|refine⟨λ_=>?_,λ_=>?_⟩|fail
 refine A00 5 1 rfl rfl ?_
 refine I2 A4 C91 C7T (λ(i:Nat) (w:List (List UInt8))=>[.arr 0 (I0 w).length,.d (eI i)]) (λi w=>[.arr (I0 w) 1 0 (I0 w).isEmpty]) (λi w=>i<=S.length/\w=((S.take i).filter crE).map En.tb) (λi w=>S.length-i) 0 [] rfl rfl rfl rfl (λ_ _ _=>⟨rfl,rfl⟩) rfl ⟨by omega,rfl⟩ ?_
 repeat' first|refine st ?_|refine⟨λ_=>?_,λ_=>?_⟩|fail
 intro i A ⟨g1,g2⟩
 have hAl:(I0 A).length<=i:=by
  rw[A0Q,g2,C6]
  exact O4 (A0X ..) (by rw[J1];omega)
 have hAm:=A9c A
 cases hx:S[i]? with
 |some e=>
  have hlt:=(A7.1 hx).1
  have hg:=hg0 i e hx
  have hC:=B2F e
  have hs:((S.take (i+1)).filter crE).map En.tb=A++(if crE e then [e.tb] else []):=by
   rw[A8r hx,g2,A0s]
   congr 1
   split<;>rfl
  rw[show crE e=M7 e.ch from rfl] at hs
  cases hp:M7 e.ch with
  |true=>
   rw[hp] at hC hs
   have hap:I0 (A++[e.tb])=I0 A++[[.str e.tb]]:=by simp[I0]
   obtain⟨tm,tb,⟨⟨nm',cs,ks,fs,xs⟩,dc,dk,df,dx⟩,⟨k,cnm,to,⟨cn,ck,cl⟩,⟨vk,vn,vs⟩⟩⟩:=e
   clear g2 hNe hp
   dsimp only at hap hs
   repeat' first|refine st ?_|refine⟨λ_=>?_,λ_=>?_⟩|fail
   exact⟨i+1,A++[tb],by rw[hap];rfl,rfl,by rw[hap];first|rfl|(simp;done),by omega,by omega,hs.symm⟩
  |false=>
   rw[hp] at hC hs
   obtain⟨tm,tb,⟨⟨nm',cs,ks,fs,xs⟩,dc,dk,df,dx⟩,⟨k,cnm,to,⟨cn,ck,cl⟩,⟨vk,vn,vs⟩⟩⟩:=e
   clear g2 hNe hp
   repeat' first|refine st ?_|refine⟨λ_=>?_,λ_=>?_⟩|fail
   exact⟨i+1,A,rfl,rfl,rfl,by omega,by omega,by rw[hs];simp⟩
 |none=>
  have hge:=C8.1 hx
  rw[J5 hge,<- hNe] at g2
  subst g2
  have hSo:=C4K A (I0 A).isEmpty (by omega) (os:=[.arr (I0 A) 1 0 (I0 A).isEmpty]) (id:=0) rfl
  have hll:(I0 (W4 A)).length=(I0 A).length:=by rw[A0Q,A0Q,B2f]
  have hem:(I0 A).isEmpty=(I0 (W4 A)).isEmpty:=by
   rw[A0U,List.isEmpty_iff_length_eq_zero,List.isEmpty_iff_length_eq_zero,hll]
  unfold stD
  obtain⟨B,hB⟩:∃B,B=I0 (W4 A):=⟨_,rfl⟩
  rw[<- hB] at hSo hll hem ⊢
  clear hNe hB
  repeat' first|(with_reducible apply A35)|refine st ?_|((with_reducible first|apply I5|apply I8);(·exact hSo);(try rintro _ _ ⟨rfl,rfl⟩))|((with_reducible apply I9);(·exact hSo))|refine⟨λ_=>?_,λ_=>?_⟩|fail
  all_goals first|(rw[hem];cases B<;>rfl)|(rw[hem];rfl)
def X5(l:List (List UInt8))(s:List UInt8):List (List UInt8):=l.takeWhile (λx=>decide (x<s))++s::l.dropWhile (λx=>decide (x<s))
theorem D4T(l:List (List UInt8))(s:List UInt8):(X5 l s).length=l.length+1:=by
 unfold X5
 have:=congrArg List.length (List.takeWhile_append_dropWhile (p:=λx=>decide (x<s)) (l:=l))
 rw[J0] at this
 rw[J0,H7]
 omega
theorem D7C (l : List (List UInt8)) (p : List UInt8 → Bool) : ∀ i, (∀ j x, j < i → l[j]? = some x → p x = true) → i ≤ l.length → (∀ x, l[i]? = some x → p x = false) → l.takeWhile p = l.take i ∧ l.dropWhile p = l.drop i := by
  induction l with
  | nil => intro i _ hi _; have : i = 0 := by simpa using hi
           subst this; exact ⟨rfl, rfl⟩
  | cons a r ih =>
    intro i h1 hi h2
    cases i with
    | zero =>
      have := h2 a rfl
      exact ⟨by simp [List.takeWhile_cons, this], by simp [List.dropWhile_cons, this]⟩
    | succ i =>
      have h0 := h1 0 a (by omega) rfl
      obtain ⟨e1, e2⟩ := ih i (fun j x hj hx => h1 (j + 1) x (by omega) (by simpa using hx)) (by simpa using hi) (fun x hx => h2 x (by simpa using hx))
      exact ⟨by simp [List.takeWhile_cons, h0, e1], by simp [List.dropWhile_cons, h0, e2]⟩
theorem C4l(l:List (List UInt8))(hl:l.length<=1048576)(s:List UInt8)(d:D)(hd:B3 d (I0 l)):Pure Tryz.prog B7a [.d d,.d (.str s)] (.d (.sl (I0 (X5 l s)))):=by
 have h1:=A0Q l
 have hm:=A9c l
 have hg0:=λi e=>@C21 l i e
 obtain⟨R,hR⟩:∃R,R=I0 (X5 l s):=⟨_,rfl⟩
 rw[<- hR]
 obtain⟨es,hes⟩:∃es,es=I0 l:=⟨_,rfl⟩
 rw[<- hes] at h1 hm hg0 hd
 refine C5O.go A4 rfl ?_
 repeat' first|refine st ?_|refine⟨λ_=>?_,λ_=>?_⟩|fail
 refine F2 A4 C90 C7S (λ(i:Nat)=>[.arr 0 (es.take i).length,.d (eI i)]) (λi=>[.arr (es.take i) 1 0 false]) (λi=>i<=l.length/\∀j x,j<i->l[j]?=some x->decide (x<s)=true) (λi=>l.length-i) 0 rfl rfl rfl rfl (λ_ _=>⟨rfl,rfl⟩) rfl ⟨by omega,λj x hj=>by omega⟩ ?_
 repeat' first|refine st ?_|refine⟨λ_=>?_,λ_=>?_⟩|fail
 intro i ⟨g1,g2⟩
 have htl:(es.take i).length=i:=by rw[J1];omega
 have htm:∀e∈es.take i,e.length=1:=λe he=>hm e (Z1 he)
 have hfin:(∀x,l[i]?=some x->decide (x<s)=false)->R=es.take i++[[.str s]]++es.drop i:=λh=>by
  obtain⟨e1,e2⟩:=D7C l (λx=>decide (x<s)) i g2 g1 h
  rw[hR,hes]
  unfold X5
  rw[e1,e2]
  simp[I0]
 cases hx:l[i]? with
 |some x=>
  have hlt:=(A7.1 hx).1
  have hg:es[((i:Nat):Int).toNat]?=some [.str x]:=hg0 i x hx
  have hil:(i:Int)<es.length:=by omega
  have hbl:=bytesLess_eq x s
  obtain rfl:d=.sl es:=by
   rcases hd with ⟨_,he⟩|h
   ·rw[he] at hg;cases hg
   ·exact h
  cases hp:decide (x<s) with
  |true=>
   rw[hp] at hbl
   have hsn:es.take (i+1)=es.take i++[[.str x]]:=by rw[P1,show es[i]?=some [.str x] from hg];rfl
   have hinv:∀j y,j<i+1->l[j]?=some y->decide (y<s)=true:=λj y hj hy=>by
    by_cases e:j=i
    ·subst e;rw[hx] at hy;cases hy;exact hp
    ·exact g2 j y (by omega) hy
   clear hfin g2 hR hes
   repeat' first|refine st ?_|refine⟨λ_=>?_,λ_=>?_⟩|fail
   exact⟨i+1,by rw[hsn];rfl,rfl,by rw[hsn];rfl,by omega,by omega,hinv⟩
  |false=>
   rw[hp] at hbl
   have hfin:=hfin λy hy=>by rw[hx] at hy;cases hy;exact hp
   have hq:List.take ((es.length:Int).toNat-(((i:Nat):Int)).toNat) (List.drop (((i:Nat):Int)).toNat es)=es.drop i:=by
    rw[G7,G7,J5 (by rw[U5];exact G8 _)]
   have hdl:(es.drop i).length<=1048576:=by rw[U5];omega
   have hdm:∀e∈es.drop i,e.length=1:=λe he=>hm e (A2b he)
   have hb1:(es.take i++[[D.str s]]).length=i+1:=by rw[J0,htl];rfl
   clear g2 hR hes
   subst hfin
   repeat' first|(rw[hq])|refine st ?_|refine⟨λ_=>?_,λ_=>?_⟩|fail
   all_goals first|rfl|(cases es.drop i<;>rfl)
 |none=>
  have hge:=C8.1 hx
  have hil:¬(i:Int)<es.length:=by omega
  have hfin:=hfin λy hy=>by rw[hx] at hy;cases hy
  have hq:List.take ((es.length:Int).toNat-(((i:Nat):Int)).toNat) (List.drop (((i:Nat):Int)).toNat es)=es.drop i:=by
   rw[G7,G7,J5 (by rw[U5];exact G8 _)]
  have hdl:(es.drop i).length<=1048576:=by rw[U5];omega
  have hdm:∀e∈es.drop i,e.length=1:=λe he=>hm e (A2b he)
  have hb1:(es.take i++[[D.str s]]).length=i+1:=by rw[J0,htl];rfl
  have hd0:es.drop i=[]:=A0V (by omega)
  clear g2 hR hes
  subst hfin
  rcases hd with ⟨rfl,he⟩|rfl
  ·have hi0:i=0:=by rw[he] at h1;simp at h1;omega
   repeat' first|(rw[hq])|refine st ?_|refine⟨λ_=>?_,λ_=>?_⟩|fail
   all_goals first|rfl|(rw[hd0];rfl)
  ·repeat' first|(rw[hq])|refine st ?_|refine⟨λ_=>?_,λ_=>?_⟩|fail
   all_goals first|rfl|(cases es.drop i<;>rfl)
theorem C0r{a b:List UInt8}:¬a<b↔b<=a:=by rw[List.not_lt]
theorem C03(l:List (List UInt8))(s:List UInt8):(X5 l s).Perm (s::l):=by
 unfold X5
 refine List.perm_middle.trans ?_
 rw[List.takeWhile_append_dropWhile]
theorem D4U{l:List (List UInt8)}(s:List UInt8)(h:l.Pairwise (·<=·)):(X5 l s).Pairwise (·<=·):=by
 induction l with
 |nil=>simp[X5]
 |cons a r ih=>
  have ih:=ih (A03.1 h).2
  unfold X5 at ih ⊢
  by_cases ha:a<s
  ·rw[List.takeWhile_cons,List.dropWhile_cons,decide_eq_true ha]
   simp only[if_true,A3n]
   refine A03.2 ⟨λy hy=>?_,ih⟩
   have hp:y∈s::r:=(C03 r s).mem_iff.1 hy
   rcases I6.1 hp with rfl|hp
   ·exact List.le_of_lt ha
   ·exact(A03.1 h).1 y hp
  ·rw[List.takeWhile_cons,List.dropWhile_cons,decide_eq_false ha]
   simp only[L8,if_false,A1v]
   refine A03.2 ⟨λy hy=>?_,h⟩
   rcases I6.1 hy with rfl|hy
   ·exact C0r.1 ha
   ·exact List.le_trans (C0r.1 ha) ((A03.1 h).1 y hy)
theorem D7o(l:List (List UInt8)):(W4 l).Pairwise (·<=·):=by
 have:=List.pairwise_mergeSort (le:=λx y:List UInt8=>decide (x<=y)) (λa b c h1 h2=>by simp only[decide_eq_true_eq] at *;exact List.le_trans h1 h2) (λa b=>by simp only[A3i,decide_eq_true_eq];exact List.le_total a b) l
 exact this.imp (by intro a b h;simpa using h)
theorem C1W(l:List (List UInt8)):(W4 l).Perm l:=List.mergeSort_perm ..
theorem B9K:∀(l E7:List (List UInt8)),E7.Pairwise (·<=·)->(l.foldl X5 E7).Pairwise (·<=·)/\(l.foldl X5 E7).Perm (E7++l)
 |[],E7,h=>⟨h,by simp⟩
 |a::r,E7,h=>by
  obtain⟨h1,h2⟩:=B9K r (X5 E7 a) (D4U a h)
  refine⟨h1,h2.trans ?_⟩
  exact((C03 E7 a).append_right r).trans List.perm_middle.symm
theorem D4B(l:List (List UInt8)):l.foldl X5 []=W4 l:=by
 obtain⟨h1,h2⟩:=B9K l [] List.Pairwise.nil
 exact List.Perm.eq_of_pairwise (λa b _ _ h3 h4=>List.le_antisymm h3 h4) h1 (D7o l) (h2.trans (by simpa using(C1W l).symm))
theorem B9L:∀(l E7:List (List UInt8)),(l.foldl X5 E7).length=E7.length+l.length
 |[],E7=>rfl
 |a::r,E7=>by rw[A2J,B9L r,D4T,H7];omega
theorem C4j(c:List En)(hc:c.length<=1048575)(d:D)(hd:B3 d (D3 c))(at':Int):Pure Tryz.prog B77 [.d d,.d (eI at')] (.d (.sl (I0 (W4 (Q1 at' c))))):=by
 have h1:=Z4 c
 have hm:=w9 c
 have hg0:=λi e=>@A2i c i e
 obtain⟨es,hes⟩:∃es,es=D3 c:=⟨_,rfl⟩
 rw[<- hes] at h1 hm hg0 hd
 clear hes
 rw[<- D4B]
 obtain⟨R,hR⟩:∃R,R=(Q1 at' c).foldl X5 []:=⟨_,rfl⟩
 rw[<- hR]
 refine C5L.go A4 rfl ?_
 repeat' first|refine st ?_|refine⟨λ_=>?_,λ_=>?_⟩|fail
 refine A2F 5 rfl rfl rfl ?_
 repeat' first|refine st ?_|refine⟨λ_=>?_,λ_=>?_⟩|fail
 refine I2 A4 C8X C7P (λ(i:Nat) (w:List (List UInt8))=>[.d (.sl (I0 w)),.d (eI i)]) (λi w=>[.arr [] 1 0 false]) (λi w=>i<=c.length/\w=(Q1 at' (c.take i)).foldl X5 []) (λi w=>c.length-i) 0 [] rfl rfl rfl rfl (λ_ _ _=>⟨rfl,rfl⟩) rfl ⟨by omega,rfl⟩ ?_
 repeat' first|refine st ?_|refine⟨λ_=>?_,λ_=>?_⟩|fail
 intro i A ⟨g1,g2⟩
 have hAl:A.length<=i:=by
  rw[g2,B9L]
  have:=B14 at' (c.take i)
  rw[J1] at this
  simp only[P9];omega
 cases hx:c[i]? with
 |some e=>
  have hlt:=(A7.1 hx).1
  have hg:es[((i:Nat):Int).toNat]?=some e.ds:=hg0 i e hx
  have hil:(i:Int)<es.length:=by omega
  have hC:=A9D e
  have hI:=C4l A (by omega) e.tb (.sl (I0 A)) (.inr rfl)
  have hs:(if erB at' e&&M7 e.ch then X5 A e.tb else A)=(Q1 at' (c.take (i+1))).foldl X5 []:=by
   rw[D3v hx,A2I,<- g2]
   unfold crE
   cases erB at' e<;>cases M7 e.ch<;>rfl
  obtain⟨B,hB⟩:∃B,B=X5 A e.tb:=⟨_,rfl⟩
  rw[<- hB] at hI hs
  unfold erB at hs
  clear g2 hR hB
  by_cases q1:e.tm<=at'
  ·rw[decide_eq_true q1,Y9] at hs
   cases q3:M7 e.ch with
   |true=>
    rw[q3] at hC hs
    rw[if_pos rfl] at hs
    clear q3
    obtain⟨tm,tb,⟨⟨nm',cs,ks,fs,xs⟩,dc,dk,df,dx⟩,⟨k,cnm,to,⟨cn,ck,cl⟩,⟨vk,vn,vs⟩⟩⟩:=e
    dsimp only at q1 hI
    repeat' first|refine st ?_|refine⟨λ_=>?_,λ_=>?_⟩|fail
    all_goals exact⟨i+1,B,rfl,rfl,rfl,by omega,by omega,hs⟩
   |false=>
    rw[q3] at hC hs
    rw[if_neg (by decide)] at hs
    clear q3
    obtain⟨tm,tb,⟨⟨nm',cs,ks,fs,xs⟩,dc,dk,df,dx⟩,⟨k,cnm,to,⟨cn,ck,cl⟩,⟨vk,vn,vs⟩⟩⟩:=e
    dsimp only at q1
    repeat' first|refine st ?_|refine⟨λ_=>?_,λ_=>?_⟩|fail
    all_goals exact⟨i+1,A,rfl,rfl,rfl,by omega,by omega,hs⟩
  ·rw[decide_eq_false q1,A2G,if_neg (by decide)] at hs
   obtain⟨tm,tb,⟨⟨nm',cs,ks,fs,xs⟩,dc,dk,df,dx⟩,⟨k,cnm,to,⟨cn,ck,cl⟩,⟨vk,vn,vs⟩⟩⟩:=e
   dsimp only at q1
   repeat' first|refine st ?_|refine⟨λ_=>?_,λ_=>?_⟩|fail
   all_goals exact⟨i+1,A,rfl,rfl,rfl,by omega,by omega,hs⟩
 |none=>
  have hge:=C8.1 hx
  rw[J5 hge,<- hR] at g2
  subst g2
  have hil:(es.length:Int)<=i:=by omega
  clear hR
  repeat' first|refine st ?_|refine⟨λ_=>?_,λ_=>?_⟩|fail
  all_goals rfl
theorem A93{l:List En}(h:∀e∈l,e.ok):(s9 l).ok:=by
 unfold s9
 have:∀(l:List En) (t:TD),t.ok->(∀e∈l,e.ok)->(l.foldl (λt e=>if M7 e.ch then e.cr else t) t).ok:=by
  intro l
  induction l with
  |nil=>intro t ht _;exact ht
  |cons e r ih=>
   intro t ht h
   refine ih _ ?_ λx hx=>h x (by simp[hx])
   dsimp only
   split
   ·exact(h e (by simp)).cr
   ·exact ht
 exact this l O1 A1r h
theorem A92{l:List En}(h:∀e∈l,e.ok):∀c∈T8 l,H6 c:=by
 intro c hc
 obtain⟨e,he,rfl⟩:=D9.1 hc
 exact(h e (v6.1 he).1).ch
theorem C1z(l:List En):(T8 l).length<=l.length:=by
 unfold T8
 rw[C6]
 exact A0X ..
def Z3(s:List En):TD×Nat×Int:=if rhB s then (((s9 s).runsR (T8 s)).1,((s9 s).runsR (T8 s)).2.1,0) else (O1,0,11)
theorem B2Y(c:List En)(hc:c.length<=1048576)(hok:∀e∈c,e.ok)(d:D)(hd:B3 d (D3 c))(at':Int)(nm:List UInt8) :
  Pure Tryz.prog A7Q [.d d,.d (eI at'),.d (.str nm)] (.tup [(Z3 (E5 at' nm c)).1.av,.d (eI ((Z3 (E5 at' nm c)).2.1:Nat)),.d (eI (Z3 (E5 at' nm c)).2.2)]):=by
 have hH:=A9E c hc d hd at' nm
 have hsl:=A4X at' nm c
 have hso:=A3b (at':=at') (nm:=nm) hok
 obtain⟨s,hs⟩:∃s,s=E5 at' nm c:=⟨_,rfl⟩
 rw[<- hs] at hH hsl hso ⊢
 have hcl:=C1z s
 have hR:=A9B (s9 s) (A93 hso) (T8 s) (by omega) (A92 hso) (.sl (I3 (T8 s))) (.inr rfl)
 obtain⟨q,hq⟩:∃q,q=Z3 s:=⟨_,rfl⟩
 rw[<- hq]
 unfold Z3 at hq
 obtain⟨T,hT⟩:∃T,T=s9 s:=⟨_,rfl⟩
 rw[<- hT] at hH hR hq
 obtain⟨dl,hdl⟩:∃z,z=D.sl (I3 (T8 s)):=⟨_,rfl⟩
 rw[<- hdl] at hH hR
 obtain⟨⟨y,n,e⟩,hy⟩:∃z,z=T.runsR (T8 s):=⟨_,rfl⟩
 rw[<- hy] at hR hq
 dsimp only at hR hq
 clear hs hT hdl hy hso
 cases hb:rhB s with
 |false=>
  rw[hb] at hH hq
  rw[if_neg (by decide)] at hq
  subst hq
  obtain⟨⟨tn,cs,ks,fs,xs⟩,dc,dk,df,dx⟩:=T
  refine B3g.go A4 rfl ?_
  repeat' first|refine st ?_|refine⟨λ_=>?_,λ_=>?_⟩|fail
  all_goals rfl
 |true=>
  rw[hb] at hH hq
  rw[if_pos rfl] at hq
  subst hq
  obtain⟨⟨tn,cs,ks,fs,xs⟩,dc,dk,df,dx⟩:=T
  have hR:Bi.Pure Tryz.prog A4l [eT tn dc dk df dx,.d dl] (.tup [eT y.t.nm y.dc y.dk y.df y.dx,.d (eI n),.d (eI e)]):=hR
  refine B3g.go A4 rfl ?_
  repeat' first|refine st ?_|refine⟨λ_=>?_,λ_=>?_⟩|fail
  all_goals rfl
theorem C1V{d:D}{es:List (List D)}(h:B3 d es)(he:es=[]):d=.nil\/d=.sl []:=by
 rcases h with ⟨h,_⟩|h
 ·exact .inl h
 ·rw[he] at h;exact .inr h
theorem C3Z(l:List Int)(hl:l.length<=1048576)(d:D)(hd:B3 d (A0 l)):Pure Tryz.prog A7O [.d d,.d .nil] (.d (.bool l.isEmpty)):=by
 have h0:([]:List (List D)).length=0:=rfl
 cases l with
 |nil=>
  refine B3e.go A4 rfl ?_
  rcases C1V hd rfl with rfl|rfl
  all_goals
   repeat' first|refine st ?_|refine⟨λ_=>?_,λ_=>?_⟩|fail
   refine F2 A4 C8C C7u (λ(i:Nat)=>[.d (eI i)]) (λi=>[]) (λi=>True) (λi=>0) 0 rfl rfl rfl rfl (λ_ _=>⟨rfl,rfl⟩) rfl trivial ?_
   repeat' first|refine st ?_|refine⟨λ_=>?_,λ_=>?_⟩|fail
   intro i _
   repeat' first|refine st ?_|refine⟨λ_=>?_,λ_=>?_⟩|fail
   all_goals first|rfl|(exfalso;omega)
 |cons a r=>
  have hd:d=.sl (A0 (a::r)):=by
   rcases hd with ⟨_,h⟩|h
   ·cases h
   ·exact h
  subst hd
  have h1:(A0 (a::r)).length=r.length+1:=by rw[B4,H7]
  obtain⟨es,hes⟩:∃es,es=A0 (a::r):=⟨_,rfl⟩
  rw[<- hes] at h1 ⊢
  clear hes
  refine B3e.go A4 rfl ?_
  repeat' first|refine st ?_|refine⟨λ_=>?_,λ_=>?_⟩|fail
  all_goals first|rfl|(exfalso;omega)
theorem C3T(l:List Ex)(hl:l.length<=1048576)(d:D)(hd:B3 d (xL l)):Pure Tryz.prog B03 [.d d,.d .nil] (.d (.bool l.isEmpty)):=by
 have h0:([]:List (List D)).length=0:=rfl
 cases l with
 |nil=>
  refine B3c.go A4 rfl ?_
  rcases C1V hd rfl with rfl|rfl
  all_goals
   repeat' first|refine st ?_|refine⟨λ_=>?_,λ_=>?_⟩|fail
   refine F2 A4 C8v C7n (λ(i:Nat)=>[.d (eI i)]) (λi=>[]) (λi=>True) (λi=>0) 0 rfl rfl rfl rfl (λ_ _=>⟨rfl,rfl⟩) rfl trivial ?_
   repeat' first|refine st ?_|refine⟨λ_=>?_,λ_=>?_⟩|fail
   intro i _
   repeat' first|refine st ?_|refine⟨λ_=>?_,λ_=>?_⟩|fail
   all_goals first|rfl|(exfalso;omega)
 |cons a r=>
  have hd:d=.sl (xL (a::r)):=by
   rcases hd with ⟨_,h⟩|h
   ·cases h
   ·exact h
  subst hd
  have h1:(xL (a::r)).length=r.length+1:=by rw[I7,H7]
  obtain⟨es,hes⟩:∃es,es=xL (a::r):=⟨_,rfl⟩
  rw[<- hes] at h1 ⊢
  clear hes
  refine B3c.go A4 rfl ?_
  repeat' first|refine st ?_|refine⟨λ_=>?_,λ_=>?_⟩|fail
  all_goals first|rfl|(exfalso;omega)
def zeB(t:Tb):Bool:=decide (t.nm=[])&&(t.cs.isEmpty&&(t.ks.isEmpty&&(t.fs.isEmpty&&t.xs.isEmpty)))
theorem C40(x:TD)(h:x.ok):Pure Tryz.prog B6Q [x.av,.agg [.d (.str []),.d .nil,.d .nil,.d .nil,.d .nil]] (.d (.bool (zeB x.t))):=by
 have h2:=C3Z x.t.ks h.tok.hk x.dk h.tok.dk
 have h4:=C3T x.t.xs h.tok.hxs x.dx h.tok.dx
 obtain⟨q,hq⟩:∃q,q=zeB x.t:=⟨_,rfl⟩
 rw[<- hq]
 unfold zeB at hq
 obtain⟨b2,e2⟩:∃b,b=x.t.ks.isEmpty:=⟨_,rfl⟩
 obtain⟨b4,e4⟩:∃b,b=x.t.xs.isEmpty:=⟨_,rfl⟩
 rw[<- e2] at h2 hq
 rw[<- e4] at h4 hq
 clear e2 e4
 have hdc:=h.tok.dc
 have hdf:=h.tok.df
 have lc:=F3 x.t.cs
 have lf:=A0C x.t.fs
 have lc2:=h.tok.hl
 have lf2:=h.tok.hfl
 have h0:([]:List (List D)).length=0:=rfl
 clear h
 obtain⟨⟨nm,cs,ks,fs,xs⟩,dc,dk,df,dx⟩:=x
 dsimp only at hq h2 h4 hdc hdf lc lf lc2 lf2
 have r1:([]:List UInt8)=[]:=rfl
 obtain⟨Cs,hCs⟩:∃z,z=A9 cs:=⟨_,rfl⟩
 obtain⟨Fs,hFs⟩:∃z,z=G5 fs:=⟨_,rfl⟩
 rw[<- hCs] at hdc lc
 rw[<- hFs] at hdf lf
 clear hCs hFs
 refine C5v.go A4 rfl ?_
 by_cases g:nm=[]
 rotate_left
 ·rw[decide_eq_false g,A2G] at hq
  subst hq
  repeat' first|refine st ?_|refine⟨λ_=>?_,λ_=>?_⟩|fail
  all_goals rfl
 subst g
 rw[decide_eq_true rfl,Y9] at hq
 cases cs with
 |cons a r=>
  have hq:q=false:=hq
  subst hq
  simp only[H7] at lc
  repeat' first|refine st ?_|refine⟨λ_=>?_,λ_=>?_⟩|fail
  all_goals rfl
 |nil=>
  have hq:q=(b2&&(fs.isEmpty&&b4)):=hq
  simp only[P9] at lc
  cases b2 with
  |false=>
   have hq:q=false:=hq
   subst hq
   repeat' first|refine st ?_|refine⟨λ_=>?_,λ_=>?_⟩|fail
   all_goals rfl
  |true=>
   rw[Y9] at hq
   cases fs with
   |cons a r=>
    have hq:q=false:=hq
    subst hq
    simp only[H7] at lf
    repeat' first|refine st ?_|refine⟨λ_=>?_,λ_=>?_⟩|fail
    all_goals rfl
   |nil=>
    have hq:q=b4:=hq
    simp only[P9] at lf
    cases b4 with
    |false=>
     subst hq
     repeat' first|refine st ?_|refine⟨λ_=>?_,λ_=>?_⟩|fail
     all_goals rfl
    |true=>
     subst hq
     repeat' first|refine st ?_|refine⟨λ_=>?_,λ_=>?_⟩|fail
     refine F2 A4 C8E C7w (λ(i:Nat)=>[.d (eI i)]) (λi=>[.cells [.d (.str []),.d dc,.d dk,.d df,.d dx],.cells [.d (.str []),.d .nil,.d .nil,.d .nil,.d .nil]]) (λi=>True) (λi=>0) 0 rfl rfl rfl rfl (λ_ _=>⟨rfl,rfl⟩) rfl trivial ?_
     repeat' first|refine st ?_|refine⟨λ_=>?_,λ_=>?_⟩|fail
     intro i _
     repeat' first|refine st ?_|refine⟨λ_=>?_,λ_=>?_⟩|fail
     refine F2 A4 C8F C7x (λ(i:Nat)=>[.d (eI i)]) (λi=>[.cells [.d (.str []),.d dc,.d dk,.d df,.d dx],.cells [.d (.str []),.d .nil,.d .nil,.d .nil,.d .nil]]) (λi=>True) (λi=>0) 0 rfl rfl rfl rfl (λ_ _=>⟨rfl,rfl⟩) rfl trivial ?_
     repeat' first|refine st ?_|refine⟨λ_=>?_,λ_=>?_⟩|fail
     intro j _
     repeat' first|refine st ?_|refine⟨λ_=>?_,λ_=>?_⟩|fail
     all_goals rfl
theorem C4n(x:TD)(h:x.ok):Pure Tryz.prog B7c [x.av] (.d (.bool (zeB x.t))):=by
 have hS:=C40 x h
 obtain⟨q,hq⟩:∃q,q=zeB x.t:=⟨_,rfl⟩
 rw[<- hq] at hS ⊢
 clear hq h
 obtain⟨⟨nm,cs,ks,fs,xs⟩,dc,dk,df,dx⟩:=x
 refine C5P.go A4 rfl ?_
 repeat' first|refine st ?_|refine⟨λ_=>?_,λ_=>?_⟩|fail
 all_goals rfl
theorem C4I(l:List (List UInt8))(hl:l.length<=1048576)(d:D)(hd:B3 d (I0 l))(s:List UInt8):∃n:Int,Pure Tryz.prog B7O [.d d,.d (.str s)] (.d (eI n))/\decide (0<=n)=l.contains s:=by
 have h1:=A0Q l
 have hm:=A9c l
 have hg0:=λi e=>@C21 l i e
 by_cases hin:s∈l
 ·obtain⟨k,hk⟩:=A1t.1 hin
  -- the first place
  obtain⟨j,hj,hf⟩:∃j,l[j]?=some s/\∀i,i<j->l[i]?≠some s:=by
   have hex:∃j,l[j]?=some s:=⟨k,hk⟩
   have:=Nat.strongRecOn (motive:=λn=>l[n]?=some s->∃j,l[j]?=some s/\∀i,i<j->l[i]?≠some s) k (λn ih hn=>by
    by_cases h:∃i,i<n/\l[i]?=some s
    ·obtain⟨i,hi,he⟩:=h;exact ih i hi he
    ·exact⟨n,hn,λi hi he=>h ⟨i,hi,he⟩⟩)
   exact this hk
  have hjl:=(A7.1 hj).1
  refine⟨j,?_,by rw[decide_eq_true (by omega)];simp[hin]⟩
  obtain⟨es,hes⟩:∃es,es=I0 l:=⟨_,rfl⟩
  rw[<- hes] at h1 hm hg0 hd
  clear hes
  refine B3z.go A4 rfl ?_
  repeat' first|refine st ?_|refine⟨λ_=>?_,λ_=>?_⟩|fail
  refine F2 A4 B6w B6j (λ(i:Nat)=>[.d (eI i)]) (λi=>[]) (λi=>i<=j) (λi=>j-i) 0 rfl rfl rfl rfl (λ_ _=>⟨rfl,rfl⟩) rfl (by omega) ?_
  repeat' first|refine st ?_|refine⟨λ_=>?_,λ_=>?_⟩|fail
  intro i hi
  obtain⟨x,hx⟩:∃x,l[i]?=some x:=⟨_,C3 (by omega)⟩
  have hg:es[((i:Nat):Int).toNat]?=some [.str x]:=hg0 i x hx
  have hil:(i:Int)<es.length:=by omega
  by_cases hij:i=j
  ·subst hij
   rw[hj] at hx
   cases hx
   have r1:s=s:=rfl
   repeat' first|refine st ?_|refine⟨λ_=>?_,λ_=>?_⟩|fail
   all_goals first|rfl|(exfalso;rename_i hh;exact hh rfl)
  ·have hne:¬s=x:=λe=>hf i (by omega) (by rw[hx,e])
   repeat' first|refine st ?_|refine⟨λ_=>?_,λ_=>?_⟩|fail
   exact⟨i+1,rfl,rfl,rfl,by omega,by omega⟩
 ·refine⟨-1,?_,by rw[decide_eq_false (by decide)];simp[hin]⟩
  obtain⟨es,hes⟩:∃es,es=I0 l:=⟨_,rfl⟩
  rw[<- hes] at h1 hm hg0 hd
  clear hes
  refine B3z.go A4 rfl ?_
  repeat' first|refine st ?_|refine⟨λ_=>?_,λ_=>?_⟩|fail
  refine F2 A4 B6w B6j (λ(i:Nat)=>[.d (eI i)]) (λi=>[]) (λi=>i<=l.length) (λi=>l.length-i) 0 rfl rfl rfl rfl (λ_ _=>⟨rfl,rfl⟩) rfl (by omega) ?_
  repeat' first|refine st ?_|refine⟨λ_=>?_,λ_=>?_⟩|fail
  intro i hi
  cases hx:l[i]? with
  |some x=>
   have hlt:=(A7.1 hx).1
   have hg:es[((i:Nat):Int).toNat]?=some [.str x]:=hg0 i x hx
   have hil:(i:Int)<es.length:=by omega
   have hne:¬s=x:=λe=>hin (by rw[e];exact B9 hx)
   repeat' first|refine st ?_|refine⟨λ_=>?_,λ_=>?_⟩|fail
   exact⟨i+1,rfl,rfl,rfl,by omega,by omega⟩
  |none=>
   have hge:=C8.1 hx
   have hil:(es.length:Int)<=i:=by omega
   repeat' first|refine st ?_|refine⟨λ_=>?_,λ_=>?_⟩|fail
   all_goals rfl
theorem C4G(l:List (List UInt8))(hl:l.length<=1048576)(d:D)(hd:B3 d (I0 l))(s:List UInt8):Pure Tryz.prog B7M [.d d,.d (.str s)] (.d (.bool (l.contains s))):=by
 obtain⟨n,h1,h2⟩:=C4I l hl d hd s
 rw[<- h2]
 clear h2
 refine C6A.go A4 rfl ?_
 repeat' first|refine st ?_|refine⟨λ_=>?_,λ_=>?_⟩|fail
 all_goals rfl
abbrev D5:Int:=1099511627776
def alE(c:List En)(at':Int)(nm:List UInt8)(ch:Ch):Int:=
 if Y1 c at'≠0 then Y1 c at' else if (P0 (E5 D5 nm c)).2.2=false then 11 else if 64<=(P0 (E5 D5 nm c)).2.1 then 5 else C7 (P0 (E5 D5 nm c)).1.t ch
theorem C39(c:List En)(hc:c.length<=1048576)(hok:∀e∈c,e.ok)(d:D)(hd:B3 d (D3 c))(at':Int)(nm:List UInt8)(ch:Ch)(hch:H6 ch) :
  Pure Tryz.prog B7f [.d d,.d (eI at'),.d (.str nm),ch.av] (.d (eI (alE c at' nm ch))):=by
 have hT:=B2E c hc d hd at'
 have hN:=A9v c hc hok d hd D5 nm
 have hso:=C0J (A3b (at':=D5) (nm:=nm) hok)
 have hE:=U4 (P0 (E5 D5 nm c)).1.t (P0 (E5 D5 nm c)).1.dc (P0 (E5 D5 nm c)).1.dk (P0 (E5 D5 nm c)).1.df (P0 (E5 D5 nm c)).1.dx hso.tok ch hch
 obtain⟨q,hq⟩:∃q,q=alE c at' nm ch:=⟨_,rfl⟩
 rw[<- hq]
 unfold alE at hq
 obtain⟨e,he⟩:∃e,e=Y1 c at':=⟨_,rfl⟩
 rw[<- he] at hT hq
 obtain⟨⟨y,n,b⟩,hy⟩:∃z,z=P0 (E5 D5 nm c):=⟨_,rfl⟩
 rw[<- hy] at hN hq hE
 dsimp only at hN hq hE
 have hN:Bi.Pure Tryz.prog A5K [.d d,.d (eI D5),.d (.str nm)] (.tup [eT y.t.nm y.dc y.dk y.df y.dx,.d (eI n),.d (.bool b)]):=hN
 obtain⟨v,hv⟩:∃v,v=C7 y.t ch:=⟨_,rfl⟩
 rw[<- hv] at hE hq
 clear he hy hso hv
 obtain⟨k,cnm,to,⟨cn,ck,cl⟩,⟨vk,vn,vs⟩⟩:=ch
 by_cases g1:e=0
 rotate_left
 ·rw[if_pos g1] at hq
  subst hq
  refine A7A.go A4 rfl ?_
  repeat' first|refine st ?_|refine⟨λ_=>?_,λ_=>?_⟩|fail
  all_goals rfl
 subst g1
 rw[if_neg (by decide)] at hq
 cases b with
 |false=>
  rw[if_pos rfl] at hq
  subst hq
  refine A7A.go A4 rfl ?_
  repeat' first|refine st ?_|refine⟨λ_=>?_,λ_=>?_⟩|fail
  all_goals rfl
 |true=>
  rw[if_neg (by decide)] at hq
  by_cases g2:64<=n
  ·rw[if_pos g2] at hq
   subst hq
   have g3:(64:Int)<=n:=by omega
   refine A7A.go A4 rfl ?_
   repeat' first|refine st ?_|refine⟨λ_=>?_,λ_=>?_⟩|fail
   all_goals rfl
  ·rw[if_neg g2] at hq
   subst hq
   have g3:¬(64:Int)<=n:=by omega
   refine A7A.go A4 rfl ?_
   repeat' first|refine st ?_|refine⟨λ_=>?_,λ_=>?_⟩|fail
   all_goals rfl
theorem D4q{t u:Tb}(h:nf t=nf u)(c:Ch):C7 t c=C7 u c/\nf (D7 t c)=nf (D7 u c):=by
 refine⟨?_,?_⟩
 ·rw[<- A2Z,h,A2Z]
 ·rw[<- A4T,h,A4T]
theorem A70:∀(l:List Ch)(x:TD)(i:Nat),H9 x.t=0->(TD.run x i l).2.2=0->H9 (TD.run x i l).1.t=0/\(TD.run x i l).2.1=i+l.length
 |[],x,i,h,_=>⟨h,rfl⟩
 |c::r,x,i,h,hr=>by
  unfold TD.run at hr ⊢
  by_cases hq:C7 x.t c=0
  ·rw[if_pos hq] at hr ⊢
   have:=A70 r _ (i+1) (V3.2 (A4E hq)) hr
   exact⟨this.1,by rw[this.2,H7];omega⟩
  ·rw[if_neg hq] at hr
   exact absurd hr hq
end Go.Proofs
end
