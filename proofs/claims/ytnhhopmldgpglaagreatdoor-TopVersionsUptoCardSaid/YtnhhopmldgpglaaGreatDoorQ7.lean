/- Texts of this claim, joined. No condition. -/
import Derived.Test.YtnhhopmldgpglaaGreatDoorQ6
set_option linter.unusedSimpArgs false
set_option linter.unusedVariables false
set_option maxRecDepth 10000
set_option maxHeartbeats 4000000
section
set_option maxHeartbeats 8000000
namespace Go.Proofs
open Go.Bi
theorem C0c(nm:List UInt8)(es:List (List D))(hm:∀e∈es,e.length=3)(i:Nat)(hi:i<es.length)(hel:es.length<=1048576)(ks:List Int)(hkb:∀k∈ks,0<=k/\k<=1048576)(hkl:ks.length<=1048576)(kn:Bool)(hkn:kn=true->ks=[])(xs:List Ex)(hxl:xs.length<=1048576)(hxb:∀e∈xs,e.bk<=1048576)(xn:Bool)(hxn:xn=true->xs=[])(c0:List Int)(b0:Bool)(t0:List UInt8)(hc0:c0.length<=1048576)(hcb0:∀k∈c0,0<=k/\k<=1048576)(hn0:b0=true->c0=[])(c1:List Int)(b1:Bool)(t1:List UInt8)(hc1:c1.length<=1048576)(hcb1:∀k∈c1,0<=k/\k<=1048576)(hn1:b1=true->c1=[])(c2:List Int)(b2:Bool)(t2:List UInt8)(hc2:c2.length<=1048576)(hcb2:∀k∈c2,0<=k/\k<=1048576)(hn2:b2=true->c2=[]) :
  B4 Tryz.prog A0r [.ptr 0 0,.d (eI i)] [.cells [.d (.str nm),.arr 1 es.length,.arr 2 (A0 ks).length,.rs 3 3,.arr 4 (xL xs).length],.arr es 3 0 false,.arr (A0 ks) 1 0 kn,.rarr [[.arr 5 (A0 c0).length,.d (.str t0)],[.arr 6 (A0 c1).length,.d (.str t1)],[.arr 7 (A0 c2).length,.d (.str t2)]] 2 false,.arr (xL xs) 7 0 xn,.arr (A0 c0) 1 0 b0,.arr (A0 c1) 1 0 b1,.arr (A0 c2) 1 0 b2]
   (λr os=>r=.tup []/\os=[.cells [.d (.str nm),.d (.sl (es.eraseIdx i)),.arr 2 (A0 ks).length,.rs 3 3,.arr 4 (xL xs).length],.arr (es.eraseIdx i++[L7]) 3 (es.length-1) false,.arr (A0 (ks.map λc=>B0 c i)) 1 0 kn,.rarr [[.arr 5 (A0 c0).length,.d (.str t0)],[.arr 6 (A0 c1).length,.d (.str t1)],[.arr 7 (A0 c2).length,.d (.str t2)]] 2 false,.arr (xL (xs.map (E3 (H5 es.length i)))) 7 0 xn,.arr (A0 (c0.map λc=>B0 c i)) 1 0 b0,.arr (A0 (c1.map λc=>B0 c i)) 1 0 b1,.arr (A0 (c2.map λc=>B0 c i)) 1 0 b2]):=by
 have hD:=fun {os:List AO} (ho:os[1]?=some (.arr es 3 0 false))=>A4F es hm i hi ho
 refine A4J.goX A6 rfl ?_
 repeat' first|refine st ?_|(with_reducible first|apply A5|apply A4)<;>intro _
 refine r8 4 7 rfl rfl ?_
 repeat' first|refine st ?_|(with_reducible first|apply A5|apply A4)<;>intro _
 refine P5 A6 A4U A4P (λ(k:Nat) (A:List (List D))=>[.arr 8 A.length,.d (eI k)]) (λk A=>[.cells [.d (.str nm),.arr 1 es.length,.arr 2 (A0 ks).length,.rs 3 3,.arr 4 (xL xs).length],.arr es 3 0 false,.arr (A0 ks) 1 0 kn,.rarr [[.arr 5 (A0 c0).length,.d (.str t0)],[.arr 6 (A0 c1).length,.d (.str t1)],[.arr 7 (A0 c2).length,.d (.str t2)]] 2 false,.arr (xL xs) 7 0 xn,.arr (A0 c0) 1 0 b0,.arr (A0 c1) 1 0 b1,.arr (A0 c2) 1 0 b2,.arr A 7 0 A.isEmpty]) (λk A=>k<=es.length/\A=xL (H5 k i)) (λk A=>es.length-k) 0 [] rfl rfl rfl rfl (λ_ _ _=>⟨rfl,rfl⟩) rfl ⟨by omega,by simp[H5,xL]⟩ ?_
 repeat' first|refine st ?_|(with_reducible first|apply A5|apply A4)<;>intro _
 intro k A ⟨h4,h5⟩
 have hAl:A.length=k:=by rw[h5,I8,A0Q]
 have hAm:∀e∈A,e.length=7:=by rw[h5];exact P0 _
 by_cases hlt:k<es.length
 ·have hB:=W0 k i (by omega) (by omega)
  have hs:=A5U k i
  rw[<- h5] at hs
  obtain⟨b,hb⟩:∃b,b=B0 k i:=⟨_,rfl⟩
  rw[<- hb] at hB hs
  clear h5
  repeat' first|refine st ?_|((with_reducible first|apply A9|apply A8);(·exact hB))|(with_reducible first|apply A5|apply A4)<;>intro _
  refine⟨k+1,A++[[.int .i64 2,eI b,.int .i64 0,.int .i64 0,.str [],.str [],.nil]],?_,rfl,?_,by omega,by omega,hs⟩
  ·rfl
  ·rw[show(A++[[.int .i64 2,eI b,.int .i64 0,.int .i64 0,.str [],.str [],.nil]]).isEmpty=false by simp]
   first|rfl|skip
 ·have hke:k=es.length:=by omega
  rw[hke] at h5
  have hDc:=hD (os:=[.cells [.d (.str nm),.arr 1 es.length,.arr 2 (A0 ks).length,.rs 3 3,.arr 4 (xL xs).length],.arr es 3 0 false,.arr (A0 ks) 1 0 kn,.rarr [[.arr 5 (A0 c0).length,.d (.str t0)],[.arr 6 (A0 c1).length,.d (.str t1)],[.arr 7 (A0 c2).length,.d (.str t2)]] 2 false,.arr (xL xs) 7 0 xn,.arr (A0 c0) 1 0 b0,.arr (A0 c1) 1 0 b1,.arr (A0 c2) 1 0 b2,.arr A 7 0 A.isEmpty]) rfl
  obtain⟨es',hes'⟩:∃e,e=es.eraseIdx i:=⟨_,rfl⟩
  rw[<- hes'] at hDc ⊢
  obtain⟨M0,hM0⟩:∃L,L=H5 es.length i:=⟨_,rfl⟩
  have hMl:M0.length<=1048576:=by rw[hM0,A0Q];exact hel
  rw[<- hM0] at h5 ⊢
  obtain⟨N0,hN0⟩:∃K,K=A0 (c0.map λc=>B0 c i):=⟨_,rfl⟩
  obtain⟨N1,hN1⟩:∃K,K=A0 (c1.map λc=>B0 c i):=⟨_,rfl⟩
  obtain⟨N2,hN2⟩:∃K,K=A0 (c2.map λc=>B0 c i):=⟨_,rfl⟩
  rw[<- hN0,<- hN1,<- hN2]
  repeat' first|(with_reducible apply H6)|refine st ?_|((with_reducible first|apply I6|apply D5);(·exact hDc);(try rintro _ _ ⟨rfl,rfl⟩))|((with_reducible apply I7);(·exact hDc))|((with_reducible apply H6);refine st ?_;(with_reducible apply I5);(·exact rfl);refine st ?_;(with_reducible apply D5);(·exact hDc);(try rintro _ _ ⟨rfl,rfl⟩))|(with_reducible first|apply A5|apply A4)<;>intro _
  refine G6 A6 A4V A4Q (λ(j:Nat)=>[.d (eI j)]) (λj=>[.cells [.d (.str nm),.d (.sl es'),.arr 2 (A0 ks).length,.rs 3 3,.arr 4 (xL xs).length],.arr (es'++[L7]) 3 (es.length-1) false,.arr (A0 (D3 ks (λc=>B0 c i) j)) 1 0 kn,.rarr [[.arr 5 (A0 c0).length,.d (.str t0)],[.arr 6 (A0 c1).length,.d (.str t1)],[.arr 7 (A0 c2).length,.d (.str t2)]] 2 false,.arr (xL xs) 7 0 xn,.arr (A0 c0) 1 0 b0,.arr (A0 c1) 1 0 b1,.arr (A0 c2) 1 0 b2,.arr A 7 0 A.isEmpty]) (λj=>j<=ks.length) (λj=>ks.length-j) 0 rfl rfl rfl (by rw[o8];rfl) (λ_ _=>⟨rfl,rfl⟩) rfl (by omega) ?_
  repeat' first|refine st ?_|(with_reducible first|apply A5|apply A4)<;>intro _
  intro j h6
  have hKl:=o6 ks (λc=>B0 c i) j h6
  cases hy:ks[j]? with
  |some c=>
   obtain⟨hlt2,he2⟩:=B2.1 hy
   have hkf:kn=false:=by
    cases kn with
    |false=>rfl
    |true=>rw[hkn rfl] at hlt2;simp at hlt2
   subst hkf
   have hg:=O2 (o5 (λc=>B0 c i) hy)
   have hset:=o7 (λc=>B0 c i) hy
   obtain⟨cb1,cb2⟩:=hkb c (C3 hy)
   have hB:=W0 c i (by omega) (by omega)
   have hks:=B6 ks
   obtain⟨y,hyy⟩:∃y,y=B0 c i:=⟨_,rfl⟩
   rw[<- hyy] at hB hset
   have hset2:(A0 (D3 ks (λc=>B0 c i) j)).set j [eI y]=A0 (D3 ks (λc=>B0 c i) (j+1)):=by rw[n6,hset]
   have hml:=B6 (D3 ks (λc=>B0 c i) j)
   have hmm2:=D4 (D3 ks (λc=>B0 c i) j)
   obtain⟨X,hX⟩:∃X,X=A0 (D3 ks (λc=>B0 c i) j):=⟨_,rfl⟩
   rw[<- hX] at hg hset2 hml hmm2 ⊢
   repeat' first|refine st ?_|((with_reducible first|apply A9|apply A8);(·exact hB))|(with_reducible first|apply A5|apply A4)<;>intro _
   refine⟨j+1,rfl,rfl,?_,by omega,by omega⟩
   rw[show((j:Int)).toNat=j from K8 j,hset2]
  |none=>
   have hge:=E4.1 hy
   have hjk:j=ks.length:=by omega
   subst hjk
   rw[o4]
   have hks:=B6 ks
   obtain⟨K',hK'⟩:∃K,K=A0 (ks.map λc=>B0 c i):=⟨_,rfl⟩
   rw[<- hK']
   repeat' first|refine st ?_|(with_reducible first|apply A5|apply A4)<;>intro _
   refine A1A 4 ?_
   refine Q3 A6 ?_
   repeat' first|refine st ?_|(with_reducible first|apply A5|apply A4)<;>intro _
   refine G6 A6 A15 A14 (λ(j:Nat)=>[.d (eI j)]) (λj=>[.cells [.d (.str nm),.d (.sl es'),.arr 2 (A0 ks).length,.rs 3 3,.arr 4 (xL xs).length],.arr (es'++[L7]) 3 (es.length-1) false,.arr K' 1 0 kn,.rarr [[.arr 5 (A0 c0).length,.d (.str t0)],[.arr 6 (A0 c1).length,.d (.str t1)],[.arr 7 (A0 c2).length,.d (.str t2)]] 2 false,.arr (xL xs) 7 0 xn,.arr (A0 (D3 c0 (λc=>B0 c i) j)) 1 0 b0,.arr (A0 c1) 1 0 b1,.arr (A0 c2) 1 0 b2,.arr A 7 0 A.isEmpty,.cells [.arr 5 (A0 c0).length,.d (.str t0)]]) (λj=>j<=c0.length) (λj=>c0.length-j) 0 rfl rfl rfl (by rw[o8];rfl) (λ_ _=>⟨rfl,rfl⟩) rfl (by omega) ?_
   repeat' first|refine st ?_|(with_reducible first|apply A5|apply A4)<;>intro _
   intro j h6
   have hKl:=o6 c0 (λc=>B0 c i) j h6
   cases hy:c0[j]? with
   |some c=>
    obtain⟨hlt2,he2⟩:=B2.1 hy
    have hkf:b0=false:=by
     cases b0 with
     |false=>rfl
     |true=>rw[hn0 rfl] at hlt2;simp at hlt2
    subst hkf
    have hg:=O2 (o5 (λc=>B0 c i) hy)
    have hset:=o7 (λc=>B0 c i) hy
    obtain⟨cb1,cb2⟩:=hcb0 c (C3 hy)
    have hB:=W0 c i (by omega) (by omega)
    have hks:=B6 c0
    obtain⟨y,hyy⟩:∃y,y=B0 c i:=⟨_,rfl⟩
    rw[<- hyy] at hB hset
    have hset2:(A0 (D3 c0 (λc=>B0 c i) j)).set j [eI y]=A0 (D3 c0 (λc=>B0 c i) (j+1)):=by rw[n6,hset]
    have hml:=B6 (D3 c0 (λc=>B0 c i) j)
    have hmm2:=D4 (D3 c0 (λc=>B0 c i) j)
    obtain⟨X,hX⟩:∃X,X=A0 (D3 c0 (λc=>B0 c i) j):=⟨_,rfl⟩
    rw[<- hX] at hg hset2 hml hmm2 ⊢
    repeat' first|refine st ?_|((with_reducible first|apply A9|apply A8);(·exact hB))|(with_reducible first|apply A5|apply A4)<;>intro _
    refine⟨j+1,rfl,rfl,?_,by omega,by omega⟩
    rw[show((j:Int)).toNat=j from K8 j,hset2]
   |none=>
    have hge:=E4.1 hy
    have hjk:j=c0.length:=by omega
    subst hjk
    rw[o4]
    have hks:=B6 c0
    rw[<- hN0]
    repeat' first|refine st ?_|(with_reducible first|apply A5|apply A4)<;>intro _
    refine Q3 A6 ?_
    repeat' first|refine st ?_|(with_reducible first|apply A5|apply A4)<;>intro _
    refine G6 A6 A15 A14 (λ(j:Nat)=>[.d (eI j)]) (λj=>[.cells [.d (.str nm),.d (.sl es'),.arr 2 (A0 ks).length,.rs 3 3,.arr 4 (xL xs).length],.arr (es'++[L7]) 3 (es.length-1) false,.arr K' 1 0 kn,.rarr [[.arr 5 (A0 c0).length,.d (.str t0)],[.arr 6 (A0 c1).length,.d (.str t1)],[.arr 7 (A0 c2).length,.d (.str t2)]] 2 false,.arr (xL xs) 7 0 xn,.arr N0 1 0 b0,.arr (A0 (D3 c1 (λc=>B0 c i) j)) 1 0 b1,.arr (A0 c2) 1 0 b2,.arr A 7 0 A.isEmpty,.cells [.arr 5 (A0 c0).length,.d (.str t0)],.cells [.arr 6 (A0 c1).length,.d (.str t1)]]) (λj=>j<=c1.length) (λj=>c1.length-j) 0 rfl rfl rfl (by rw[o8];rfl) (λ_ _=>⟨rfl,rfl⟩) rfl (by omega) ?_
    repeat' first|refine st ?_|(with_reducible first|apply A5|apply A4)<;>intro _
    intro j h6
    have hKl:=o6 c1 (λc=>B0 c i) j h6
    cases hy:c1[j]? with
    |some c=>
     obtain⟨hlt2,he2⟩:=B2.1 hy
     have hkf:b1=false:=by
      cases b1 with
      |false=>rfl
      |true=>rw[hn1 rfl] at hlt2;simp at hlt2
     subst hkf
     have hg:=O2 (o5 (λc=>B0 c i) hy)
     have hset:=o7 (λc=>B0 c i) hy
     obtain⟨cb1,cb2⟩:=hcb1 c (C3 hy)
     have hB:=W0 c i (by omega) (by omega)
     have hks:=B6 c1
     obtain⟨y,hyy⟩:∃y,y=B0 c i:=⟨_,rfl⟩
     rw[<- hyy] at hB hset
     have hset2:(A0 (D3 c1 (λc=>B0 c i) j)).set j [eI y]=A0 (D3 c1 (λc=>B0 c i) (j+1)):=by rw[n6,hset]
     have hml:=B6 (D3 c1 (λc=>B0 c i) j)
     have hmm2:=D4 (D3 c1 (λc=>B0 c i) j)
     obtain⟨X,hX⟩:∃X,X=A0 (D3 c1 (λc=>B0 c i) j):=⟨_,rfl⟩
     rw[<- hX] at hg hset2 hml hmm2 ⊢
     repeat' first|refine st ?_|((with_reducible first|apply A9|apply A8);(·exact hB))|(with_reducible first|apply A5|apply A4)<;>intro _
     refine⟨j+1,rfl,rfl,?_,by omega,by omega⟩
     rw[show((j:Int)).toNat=j from K8 j,hset2]
    |none=>
     have hge:=E4.1 hy
     have hjk:j=c1.length:=by omega
     subst hjk
     rw[o4]
     have hks:=B6 c1
     rw[<- hN1]
     repeat' first|refine st ?_|(with_reducible first|apply A5|apply A4)<;>intro _
     refine Q3 A6 ?_
     repeat' first|refine st ?_|(with_reducible first|apply A5|apply A4)<;>intro _
     refine G6 A6 A15 A14 (λ(j:Nat)=>[.d (eI j)]) (λj=>[.cells [.d (.str nm),.d (.sl es'),.arr 2 (A0 ks).length,.rs 3 3,.arr 4 (xL xs).length],.arr (es'++[L7]) 3 (es.length-1) false,.arr K' 1 0 kn,.rarr [[.arr 5 (A0 c0).length,.d (.str t0)],[.arr 6 (A0 c1).length,.d (.str t1)],[.arr 7 (A0 c2).length,.d (.str t2)]] 2 false,.arr (xL xs) 7 0 xn,.arr N0 1 0 b0,.arr N1 1 0 b1,.arr (A0 (D3 c2 (λc=>B0 c i) j)) 1 0 b2,.arr A 7 0 A.isEmpty,.cells [.arr 5 (A0 c0).length,.d (.str t0)],.cells [.arr 6 (A0 c1).length,.d (.str t1)],.cells [.arr 7 (A0 c2).length,.d (.str t2)]]) (λj=>j<=c2.length) (λj=>c2.length-j) 0 rfl rfl rfl (by rw[o8];rfl) (λ_ _=>⟨rfl,rfl⟩) rfl (by omega) ?_
     repeat' first|refine st ?_|(with_reducible first|apply A5|apply A4)<;>intro _
     intro j h6
     have hKl:=o6 c2 (λc=>B0 c i) j h6
     cases hy:c2[j]? with
     |some c=>
      obtain⟨hlt2,he2⟩:=B2.1 hy
      have hkf:b2=false:=by
       cases b2 with
       |false=>rfl
       |true=>rw[hn2 rfl] at hlt2;simp at hlt2
      subst hkf
      have hg:=O2 (o5 (λc=>B0 c i) hy)
      have hset:=o7 (λc=>B0 c i) hy
      obtain⟨cb1,cb2⟩:=hcb2 c (C3 hy)
      have hB:=W0 c i (by omega) (by omega)
      have hks:=B6 c2
      obtain⟨y,hyy⟩:∃y,y=B0 c i:=⟨_,rfl⟩
      rw[<- hyy] at hB hset
      have hset2:(A0 (D3 c2 (λc=>B0 c i) j)).set j [eI y]=A0 (D3 c2 (λc=>B0 c i) (j+1)):=by rw[n6,hset]
      have hml:=B6 (D3 c2 (λc=>B0 c i) j)
      have hmm2:=D4 (D3 c2 (λc=>B0 c i) j)
      obtain⟨X,hX⟩:∃X,X=A0 (D3 c2 (λc=>B0 c i) j):=⟨_,rfl⟩
      rw[<- hX] at hg hset2 hml hmm2 ⊢
      repeat' first|refine st ?_|((with_reducible first|apply A9|apply A8);(·exact hB))|(with_reducible first|apply A5|apply A4)<;>intro _
      refine⟨j+1,rfl,rfl,?_,by omega,by omega⟩
      rw[show((j:Int)).toNat=j from K8 j,hset2]
     |none=>
      have hge:=E4.1 hy
      have hjk:j=c2.length:=by omega
      subst hjk
      rw[o4]
      have hks:=B6 c2
      rw[<- hN2]
      repeat' first|refine st ?_|(with_reducible first|apply A5|apply A4)<;>intro _
      refine Q3 A6 ?_
      repeat' first|refine st ?_|(with_reducible first|apply A5|apply A4)<;>intro _
      have hAe:A.isEmpty=false:=by cases A with
       |nil=>simp at hAl;omega
       |cons a l=>rfl
      rw[hAe]
      have hXl:=I8 xs
      refine A6m 4 (id:=8) (len:=A.length) (sz:=7) (frz:=0) (nl:=false) (es:=A) rfl rfl rfl ?_
      rw[if_neg (by decide:¬(false=true))]
      repeat' first|refine st ?_|(with_reducible first|apply A5|apply A4)<;>intro _
      refine G6 A6 A4W A4R (λ(q:Nat)=>[.d (eI q)]) (λq=>[.cells [.d (.str nm),.d (.sl es'),.arr 2 (A0 ks).length,.rs 3 3,.arr 4 (xL xs).length],.arr (es'++[L7]) 3 (es.length-1) false,.arr K' 1 0 kn,.rarr [[.arr 5 (A0 c0).length,.d (.str t0)],[.arr 6 (A0 c1).length,.d (.str t1)],[.arr 7 (A0 c2).length,.d (.str t2)]] 2 false,.arr (xL (L2 xs (E3 M0) q)) 7 0 xn,.arr N0 1 0 b0,.arr N1 1 0 b1,.arr N2 1 0 b2,.arr A 7 A.length false,.cells [.arr 5 (A0 c0).length,.d (.str t0)],.cells [.arr 6 (A0 c1).length,.d (.str t1)],.cells [.arr 7 (A0 c2).length,.d (.str t2)]]) (λq=>q<=xs.length) (λq=>xs.length-q) 0 rfl rfl rfl (by rw[A5S];rfl) (λ_ _=>⟨rfl,rfl⟩) rfl (by omega) ?_
      repeat' first|refine st ?_|(with_reducible first|apply A5|apply A4)<;>intro _
      intro q h7
      have hMb:∀a∈M0,a.bk<=1048576:=by
       intro a ha
       rw[hM0] at ha
       obtain⟨b,_,rfl⟩:=E6.1 ha
       unfold mvE Ex.bk
       rw[Ex.ds_mk]
       exact P9 rfl
      have hXql:=A5Q xs (E3 M0) q h7
      cases hx:xs[q]? with
      |some x=>
       obtain⟨hlt3,he3⟩:=B2.1 hx
       have hxf:xn=false:=by
        cases xn with
        |false=>rfl
        |true=>rw[hxn rfl] at hlt3;simp at hlt3
       subst hxf
       have hg:=A5P (E3 M0) hx
       have hset:=A5R (E3 M0) hx
       have hS:=A4D M0 hMl hMb (.sl A) (by rw[h5];exact O7) x (hxb x (C3 hx))
       have hq1:=I8 (L2 xs (E3 M0) q)
       have hq2:=P0 (L2 xs (E3 M0) q)
       obtain⟨z,hz⟩:∃z,z=E3 M0 x:=⟨_,rfl⟩
       rw[<- hz] at hS hset
       have hset2:(xL (L2 xs (E3 M0) q)).set q z.ds=xL (L2 xs (E3 M0) (q+1)):=by rw[<- hset];unfold xL;rw[X5]
       obtain⟨o1,n1,v1,m1,l1,a1⟩:=x
       obtain⟨o2,n2,v2,m2,l2,a2⟩:=z
       have hg:=y9 _ _ _ _ _ _ _ hg
       rw[Ex.av_mk,Ex.av_mk] at hS
       rw[Ex.ds_mk] at hset2
       obtain⟨X,hX⟩:∃X,X=xL (L2 xs (E3 M0) q):=⟨_,rfl⟩
       rw[<- hX] at hg hset2 hq1 hq2 ⊢
       repeat' first|refine st ?_|((with_reducible first|apply A9|apply A8);(·exact hS))|(with_reducible first|apply A5|apply A4)<;>intro _
       refine⟨q+1,rfl,rfl,?_,by omega,by omega⟩
       rw[show((q:Int)).toNat=q from K8 q,hset2]
      |none=>
       have hge:=E4.1 hx
       have hqk:q=xs.length:=by omega
       subst hqk
       rw[A5O]
       repeat' first|refine st ?_|(with_reducible first|apply A5|apply A4)<;>intro _
       exact⟨rfl,rfl⟩
theorem C0d(T0 T1 T2 T3 T4 T7:AO)(nm:List UInt8)(es:List (List D))(hm:∀e∈es,e.length=3)(i:Nat)(hi:i<es.length)(hel:es.length<=1048576)(ks:List Int)(hkb:∀k∈ks,0<=k/\k<=1048576)(hkl:ks.length<=1048576)(kn:Bool)(hkn:kn=true->ks=[])(xs:List Ex)(hxl:xs.length<=1048576)(hxb:∀e∈xs,e.bk<=1048576)(xn:Bool)(hxn:xn=true->xs=[])(c0:List Int)(b0:Bool)(t0:List UInt8)(hc0:c0.length<=1048576)(hcb0:∀k∈c0,0<=k/\k<=1048576)(hn0:b0=true->c0=[])(c1:List Int)(b1:Bool)(t1:List UInt8)(hc1:c1.length<=1048576)(hcb1:∀k∈c1,0<=k/\k<=1048576)(hn1:b1=true->c1=[])(c2:List Int)(b2:Bool)(t2:List UInt8)(hc2:c2.length<=1048576)(hcb2:∀k∈c2,0<=k/\k<=1048576)(hn2:b2=true->c2=[]) :
  B4 Tryz.prog A0r [.ptr 13 0,.d (eI i)] [T0,T1,T2,T3,T4,.arr es 3 0 false,.arr (A0 ks) 1 0 kn,T7,.rarr [[.arr 10 (A0 c0).length,.d (.str t0)],[.arr 11 (A0 c1).length,.d (.str t1)],[.arr 12 (A0 c2).length,.d (.str t2)]] 2 false,.arr (xL xs) 7 0 xn,.arr (A0 c0) 1 0 b0,.arr (A0 c1) 1 0 b1,.arr (A0 c2) 1 0 b2,.cells [.d (.str nm),.arr 5 es.length,.arr 6 (A0 ks).length,.rs 8 3,.arr 9 (xL xs).length]]
   (λr os=>r=.tup []/\os=[T0,T1,T2,T3,T4,.arr (es.eraseIdx i++[L7]) 3 (es.length-1) false,.arr (A0 (ks.map λc=>B0 c i)) 1 0 kn,T7,.rarr [[.arr 10 (A0 c0).length,.d (.str t0)],[.arr 11 (A0 c1).length,.d (.str t1)],[.arr 12 (A0 c2).length,.d (.str t2)]] 2 false,.arr (xL (xs.map (E3 (H5 es.length i)))) 7 0 xn,.arr (A0 (c0.map λc=>B0 c i)) 1 0 b0,.arr (A0 (c1.map λc=>B0 c i)) 1 0 b1,.arr (A0 (c2.map λc=>B0 c i)) 1 0 b2,.cells [.d (.str nm),.d (.sl (es.eraseIdx i)),.arr 6 (A0 ks).length,.rs 8 3,.arr 9 (xL xs).length]]):=by
 have:=B4.frame (K:=λr os=>r=.tup []/\os=[T0,T1,T2,T3,T4,.arr (es.eraseIdx i++[L7]) 3 (es.length-1) false,.arr (A0 (ks.map λc=>B0 c i)) 1 0 kn,T7,.rarr [[.arr 10 (A0 c0).length,.d (.str t0)],[.arr 11 (A0 c1).length,.d (.str t1)],[.arr 12 (A0 c2).length,.d (.str t2)]] 2 false,.arr (xL (xs.map (E3 (H5 es.length i)))) 7 0 xn,.arr (A0 (c0.map λc=>B0 c i)) 1 0 b0,.arr (A0 (c1.map λc=>B0 c i)) 1 0 b1,.arr (A0 (c2.map λc=>B0 c i)) 1 0 b2,.cells [.d (.str nm),.d (.sl (es.eraseIdx i)),.arr 6 (A0 ks).length,.rs 8 3,.arr 9 (xL xs).length]]) (C0c nm es hm i hi hel ks hkb hkl kn hkn xs hxl hxb xn hxn c0 b0 t0 hc0 hcb0 hn0 c1 b1 t1 hc1 hcb1 hn1 c2 b2 t2 hc2 hcb2 hn2) [13,5,6,8,9,10,11,12]
  [T0,T1,T2,T3,T4,.arr es 3 0 false,.arr (A0 ks) 1 0 kn,T7,.rarr [[.arr 10 (A0 c0).length,.d (.str t0)],[.arr 11 (A0 c1).length,.d (.str t1)],[.arr 12 (A0 c2).length,.d (.str t2)]] 2 false,.arr (xL xs) 7 0 xn,.arr (A0 c0) 1 0 b0,.arr (A0 c1) 1 0 b1,.arr (A0 c2) 1 0 b2,.cells [.d (.str nm),.arr 5 es.length,.arr 6 (A0 ks).length,.rs 8 3,.arr 9 (xL xs).length]] rfl (by decide) (λi o h=>by
   match i,h with
   |0,h=>cases h;rfl
   |1,h=>cases h;rfl
   |2,h=>cases h;rfl
   |3,h=>cases h;rfl
   |4,h=>cases h;rfl
   |5,h=>cases h;rfl
   |6,h=>cases h;rfl
   |7,h=>cases h;rfl
   |i+8,h=>simp at h) (λa ha=>by
    simp only[L4,m8,or_false] at ha
    rcases ha with rfl|rfl<;>simp[AV.bnd2,AV.bnd1]) (λo ho=>by
    simp only[L4,m8,or_false] at ho
    rcases ho with rfl|rfl|rfl|rfl|rfl|rfl|rfl|rfl
    ·exact M3 rfl
    ·exact M3 rfl
    ·exact M3 rfl
    ·exact M3 rfl
    ·exact M3 rfl
    ·exact M3 rfl
    ·exact M3 rfl
    ·exact M3 rfl
    ) (by
   rintro r bs' ⟨rfl,rfl⟩
   exact⟨rfl,rfl⟩)
 exact this
end Go.Proofs
end
section
set_option maxHeartbeats 8000000
namespace Go.Proofs
open Go.Bi
theorem B9L(t:Tb)(dc dk df dx:D)(h:O0 t dc dk df dx)(c:Ch)(hc:I1 c)(hq:D7 t c=0)(g0 g1 g2:Fo)(hfs:t.fs=[g0,g1,g2])(hk:c.k=1) :
  Pure Tryz.prog Q6 [eT t.nm dc dk df dx,c.av] (.tup [eT t.nm (.sl (B3 (t.cs++[c.co]))) (B9 (A7 dk) (A0 t.ks)) (dF t.fs) (B9 (xL (t.xs.map (C0 0))).isEmpty (xL (t.xs.map (C0 0)))),.d (eI 0)]):=by
 have hC:=U3 t dc dk df dx h c hc
 rw[hq] at hC
 have hF:=S6 t.nm t.cs h.hl dc dk df dx h.dc c.nm
 have hl:=h.hl
 have hdf:=h.df
 have hfc:=h.hfc
 rw[hfs] at hdf hfc
 have hdf2:df=.sl (R4 [⟨g0.d,A0 g0.cs,A7 g0.d,g0.tb⟩,⟨g1.d,A0 g1.cs,A7 g1.d,g1.tb⟩,⟨g2.d,A0 g2.cs,A7 g2.d,g2.tb⟩]):=by
  rcases hdf with ⟨_,h2⟩|h2
  ·cases h2
  ·exact h2
 have hf0:(Fi.mk g0.d (A0 g0.cs) (A7 g0.d) g0.tb).ok:=G7 _ (by rw[B6];have:=(hfc g0 (by simp)).1;omega) (D4 _) g0.d g0.sld
 have hf1:(Fi.mk g1.d (A0 g1.cs) (A7 g1.d) g1.tb).ok:=G7 _ (by rw[B6];have:=(hfc g1 (by simp)).1;omega) (D4 _) g1.d g1.sld
 have hf2:(Fi.mk g2.d (A0 g2.cs) (A7 g2.d) g2.tb).ok:=G7 _ (by rw[B6];have:=(hfc g2 (by simp)).1;omega) (D4 _) g2.d g2.sld
 have hK:=A4A t.nm dc dk df dx (B3 t.cs) (A0 t.ks) (A7 dc) (A7 dk) (V0 _ (by rw[G8];omega) (I3 _) dc h.dc) (G7 _ (by rw[B6];have:=h.hk;omega) (D4 _) dk h.dk) _ _ _ hf0 hf1 hf2 hdf2 t.xs h.hxb h.hxs h.dx
 have hcl:=G8 t.cs
 have q0:g0.d=B9 (A7 g0.d) (A0 g0.cs):=(O4 g0.sld).symm
 have q1:g1.d=B9 (A7 g1.d) (A0 g1.cs):=(O4 g1.sld).symm
 have q2:g2.d=B9 (A7 g2.d) (A0 g2.cs):=(O4 g2.sld).symm
 have e1:B3 (t.cs++[c.co])=B3 t.cs++[c.co.ds]:=by simp[B3]
 rw[e1]
 obtain⟨k,nm,to,⟨cn,ck,cl⟩,⟨vk,vn,vs⟩⟩:=c
 dsimp only at hk
 subst hk
 obtain⟨f,hf⟩:∃f,f=D8 nm t.cs:=⟨_,rfl⟩
 have hF:Bi.Pure Tryz.prog U5 [eT t.nm dc dk df dx,.d (.str nm)] (.d (eI f)):=by rw[hf];exact hF
 rw[show dF t.fs=B9 false (H9 [g0,g1,g2]) by rw[hfs];rfl]
 generalize B3 t.cs=Cs at hK hcl q0 q1 q2 ⊢
 generalize A0 t.ks=Ks at hK hcl q0 q1 q2 ⊢
 generalize xL (t.xs.map (C0 0))=Xs at hK hcl q0 q1 q2 ⊢
 generalize A7 dk=b2 at hK hcl q0 q1 q2 ⊢
 generalize A7 dc=b1 at hK hcl q0 q1 q2 ⊢
 generalize A0 g0.cs=G0 at hK hcl q0 q1 q2 ⊢
 generalize A7 g0.d=n0 at hK hcl q0 q1 q2 ⊢
 generalize A0 g1.cs=G1 at hK hcl q0 q1 q2 ⊢
 generalize A7 g1.d=n1 at hK hcl q0 q1 q2 ⊢
 generalize A0 g2.cs=G2 at hK hcl q0 q1 q2 ⊢
 generalize A7 g2.d=n2 at hK hcl q0 q1 q2 ⊢
 obtain⟨u0,hu0⟩:∃x,x=g0.tb:=⟨_,rfl⟩
 rw[<- hu0] at hK
 obtain⟨u1,hu1⟩:∃x,x=g1.tb:=⟨_,rfl⟩
 rw[<- hu1] at hK
 obtain⟨u2,hu2⟩:∃x,x=g2.tb:=⟨_,rfl⟩
 rw[<- hu2] at hK
 refine B4.deepP (Q:=λr os=>r=.tup [.agg [.d (.str t.nm),.arr 5 (Cs++[[.str cn,eI ck,.bool cl]]).length,.arr 6 Ks.length,.rs 8 3,.arr 9 Xs.length],.d (eI 0)]/\os[5]?=some (.arr (Cs++[[.str cn,eI ck,.bool cl]]) 3 0 false)/\os[6]?=some (.arr Ks 1 0 b2)/\os[8]?=some (.rarr [[.arr 10 G0.length,.d (.str u0)],[.arr 11 G1.length,.d (.str u1)],[.arr 12 G2.length,.d (.str u2)]] 2 false)/\os[9]?=some (.arr Xs 7 0 Xs.isEmpty)/\os[10]?=some (.arr G0 1 0 n0)/\os[11]?=some (.arr G1 1 0 n1)/\os[12]?=some (.arr G2 1 0 n2)) ?_ ?_
 ·refine V1.goO2 A6 rfl ?_
  repeat' first|refine st ?_|((with_reducible first|apply A9|apply A8);(·first|exact hC|exact hF))|((with_reducible first|apply I6|apply D5);(·exact hK);(try rintro _ _ ⟨rfl,rfl⟩))|((with_reducible apply I7);(·exact hK))|((with_reducible apply H6);refine st ?_;(with_reducible apply I5);(·exact rfl);refine st ?_;(with_reducible apply D5);(·exact hK);(try rintro _ _ ⟨rfl,rfl⟩))|(with_reducible first|apply A5|apply A4)<;>intro _
  exact⟨rfl,rfl,rfl,rfl,rfl,rfl,rfl,rfl⟩
 ·rintro r os ⟨rfl,hx0,hx1,hx2,hx3,hx4,hx5,hx6⟩
  refine V5 (rows:=[[.arr 10 G0.length,.d (.str u0)],[.arr 11 G1.length,.d (.str u1)],[.arr 12 G2.length,.d (.str u2)]]) (fs:=[g0,g1,g2]) (.inl (.inr ⟨5,_,3,0,false,rfl,hx0,rfl⟩)) hx1 hx2 hx3 rfl (λi e g he hg=>?_)
  match i,he,hg with
  |0,he,hg=>cases he;cases hg;exact⟨10,_,n0,by rw[hu0],hx4,q0⟩
  |1,he,hg=>cases he;cases hg;exact⟨11,_,n1,by rw[hu1],hx5,q1⟩
  |2,he,hg=>cases he;cases hg;exact⟨12,_,n2,by rw[hu2],hx6,q2⟩
  |i+3,he,hg=>simp at he
theorem B9N(t:Tb)(dc dk df dx:D)(h:O0 t dc dk df dx)(c:Ch)(hc:I1 c)(hq:D7 t c=0)(g0 g1 g2:Fo)(hfs:t.fs=[g0,g1,g2])(hk:c.k=3)(i:Nat)(hi:D8 c.nm t.cs=i)(co:Co)(hco:t.cs[i]?=some co)(hdc:dc=.sl (B3 t.cs)) :
  Pure Tryz.prog Q6 [eT t.nm dc dk df dx,c.av] (.tup [eT t.nm (.sl (B3 (t.cs.set i ⟨c.to,co.k,co.nl⟩))) (B9 (A7 dk) (A0 t.ks)) (dF t.fs) (B9 (xL (t.xs.map (C0 0))).isEmpty (xL (t.xs.map (C0 0)))),.d (eI 0)]):=by
 have hC:=U3 t dc dk df dx h c hc
 rw[hq] at hC
 have hF:=S6 t.nm t.cs h.hl dc dk df dx h.dc c.nm
 have hl:=h.hl
 have hdf:=h.df
 have hfc:=h.hfc
 rw[hfs] at hdf hfc
 rw[hi] at hF
 have hdf2:df=.sl (R4 [⟨g0.d,A0 g0.cs,A7 g0.d,g0.tb⟩,⟨g1.d,A0 g1.cs,A7 g1.d,g1.tb⟩,⟨g2.d,A0 g2.cs,A7 g2.d,g2.tb⟩]):=by
  rcases hdf with ⟨_,h2⟩|h2
  ·cases h2
  ·exact h2
 have hf0:(Fi.mk g0.d (A0 g0.cs) (A7 g0.d) g0.tb).ok:=G7 _ (by rw[B6];have:=(hfc g0 (by simp)).1;omega) (D4 _) g0.d g0.sld
 have hf1:(Fi.mk g1.d (A0 g1.cs) (A7 g1.d) g1.tb).ok:=G7 _ (by rw[B6];have:=(hfc g1 (by simp)).1;omega) (D4 _) g1.d g1.sld
 have hf2:(Fi.mk g2.d (A0 g2.cs) (A7 g2.d) g2.tb).ok:=G7 _ (by rw[B6];have:=(hfc g2 (by simp)).1;omega) (D4 _) g2.d g2.sld
 have hK:=A4A t.nm dc dk df dx (B3 t.cs) (A0 t.ks) (A7 dc) (A7 dk) (V0 _ (by rw[G8];omega) (I3 _) dc h.dc) (G7 _ (by rw[B6];have:=h.hk;omega) (D4 _) dk h.dk) _ _ _ hf0 hf1 hf2 hdf2 t.xs h.hxb h.hxs h.dx
 have hcl:=G8 t.cs
 rw[show A7 dc=false by rw[hdc];rfl] at hK
 have q0:g0.d=B9 (A7 g0.d) (A0 g0.cs):=(O4 g0.sld).symm
 have q1:g1.d=B9 (A7 g1.d) (A0 g1.cs):=(O4 g1.sld).symm
 have q2:g2.d=B9 (A7 g2.d) (A0 g2.cs):=(O4 g2.sld).symm
 have hg:(B3 t.cs)[((i:Nat):Int).toNat]?=some [.str co.nm,eI co.k,.bool co.nl]:=M8 hco
 have hg2:(B3 t.cs)[i]?=some [.str co.nm,eI co.k,.bool co.nl]:=M8 hco
 have hmm:=I3 t.cs
 have hilt:i<(B3 t.cs).length:=by rw[hcl];exact(B2.1 hco).1
 have e1:B3 (t.cs.set i ⟨c.to,co.k,co.nl⟩)=(B3 t.cs).set i [.str c.to,eI co.k,.bool co.nl]:=by unfold B3;rw[X5]
 rw[e1]
 obtain⟨k,nm,to,⟨cn,ck,cl⟩,⟨vk,vn,vs⟩⟩:=c
 dsimp only at hk
 subst hk
 have hF:Bi.Pure Tryz.prog U5 [eT t.nm dc dk df dx,.d (.str nm)] (.d (eI i)):=hF
 rw[show dF t.fs=B9 false (H9 [g0,g1,g2]) by rw[hfs];rfl]
 generalize B3 t.cs=Cs at hK hcl hg hg2 hmm hilt q0 q1 q2 ⊢
 generalize A0 t.ks=Ks at hK hcl hg hg2 hmm hilt q0 q1 q2 ⊢
 generalize xL (t.xs.map (C0 0))=Xs at hK hcl hg hg2 hmm hilt q0 q1 q2 ⊢
 generalize A7 dk=b2 at hK hcl hg hg2 hmm hilt q0 q1 q2 ⊢
 generalize A0 g0.cs=G0 at hK hcl hg hg2 hmm hilt q0 q1 q2 ⊢
 generalize A7 g0.d=n0 at hK hcl hg hg2 hmm hilt q0 q1 q2 ⊢
 generalize A0 g1.cs=G1 at hK hcl hg hg2 hmm hilt q0 q1 q2 ⊢
 generalize A7 g1.d=n1 at hK hcl hg hg2 hmm hilt q0 q1 q2 ⊢
 generalize A0 g2.cs=G2 at hK hcl hg hg2 hmm hilt q0 q1 q2 ⊢
 generalize A7 g2.d=n2 at hK hcl hg hg2 hmm hilt q0 q1 q2 ⊢
 obtain⟨u0,hu0⟩:∃x,x=g0.tb:=⟨_,rfl⟩
 rw[<- hu0] at hK
 obtain⟨u1,hu1⟩:∃x,x=g1.tb:=⟨_,rfl⟩
 rw[<- hu1] at hK
 obtain⟨u2,hu2⟩:∃x,x=g2.tb:=⟨_,rfl⟩
 rw[<- hu2] at hK
 refine B4.deepP (Q:=λr os=>r=.tup [.agg [.d (.str t.nm),.arr 5 (Cs.set i [.str to,eI co.k,.bool co.nl]).length,.arr 6 Ks.length,.rs 8 3,.arr 9 Xs.length],.d (eI 0)]/\os[5]?=some (.arr (Cs.set i [.str to,eI co.k,.bool co.nl]) 3 0 false)/\os[6]?=some (.arr Ks 1 0 b2)/\os[8]?=some (.rarr [[.arr 10 G0.length,.d (.str u0)],[.arr 11 G1.length,.d (.str u1)],[.arr 12 G2.length,.d (.str u2)]] 2 false)/\os[9]?=some (.arr Xs 7 0 Xs.isEmpty)/\os[10]?=some (.arr G0 1 0 n0)/\os[11]?=some (.arr G1 1 0 n1)/\os[12]?=some (.arr G2 1 0 n2)) ?_ ?_
 ·refine V1.goO2 A6 rfl ?_
  rw[V3]
  repeat' first|refine st ?_|((with_reducible first|apply A9|apply A8);(·first|exact hC|exact hF))|((with_reducible first|apply I6|apply D5);(·exact hK);(try rintro _ _ ⟨rfl,rfl⟩))|((with_reducible apply I7);(·exact hK))|((with_reducible apply H6);refine st ?_;(with_reducible apply I5);(·exact rfl);refine st ?_;(with_reducible apply D5);(·exact hK);(try rintro _ _ ⟨rfl,rfl⟩))|(with_reducible first|apply A5|apply A4)<;>intro _
  exact⟨rfl,rfl,rfl,rfl,rfl,rfl,rfl,rfl⟩
 ·rintro r os ⟨rfl,hx0,hx1,hx2,hx3,hx4,hx5,hx6⟩
  refine V5 (rows:=[[.arr 10 G0.length,.d (.str u0)],[.arr 11 G1.length,.d (.str u1)],[.arr 12 G2.length,.d (.str u2)]]) (fs:=[g0,g1,g2]) (.inl (.inr ⟨5,_,3,0,false,rfl,hx0,rfl⟩)) hx1 hx2 hx3 rfl (λi e g he hg=>?_)
  match i,he,hg with
  |0,he,hg=>cases he;cases hg;exact⟨10,_,n0,by rw[hu0],hx4,q0⟩
  |1,he,hg=>cases he;cases hg;exact⟨11,_,n1,by rw[hu1],hx5,q1⟩
  |2,he,hg=>cases he;cases hg;exact⟨12,_,n2,by rw[hu2],hx6,q2⟩
  |i+3,he,hg=>simp at he
theorem B9O(t:Tb)(dc dk df dx:D)(h:O0 t dc dk df dx)(c:Ch)(hc:I1 c)(hq:D7 t c=0)(g0 g1 g2:Fo)(hfs:t.fs=[g0,g1,g2])(hk:c.k=4)(i:Nat)(hi:D8 c.nm t.cs=i)(co:Co)(hco:t.cs[i]?=some co)(hdc:dc=.sl (B3 t.cs)) :
  Pure Tryz.prog Q6 [eT t.nm dc dk df dx,c.av] (.tup [eT t.nm (.sl (B3 (t.cs.set i ⟨co.nm,2,co.nl⟩))) (B9 (A7 dk) (A0 t.ks)) (dF t.fs) (B9 (xL (t.xs.map (C0 0))).isEmpty (xL (t.xs.map (C0 0)))),.d (eI 0)]):=by
 have hC:=U3 t dc dk df dx h c hc
 rw[hq] at hC
 have hF:=S6 t.nm t.cs h.hl dc dk df dx h.dc c.nm
 have hl:=h.hl
 have hdf:=h.df
 have hfc:=h.hfc
 rw[hfs] at hdf hfc
 rw[hi] at hF
 have hdf2:df=.sl (R4 [⟨g0.d,A0 g0.cs,A7 g0.d,g0.tb⟩,⟨g1.d,A0 g1.cs,A7 g1.d,g1.tb⟩,⟨g2.d,A0 g2.cs,A7 g2.d,g2.tb⟩]):=by
  rcases hdf with ⟨_,h2⟩|h2
  ·cases h2
  ·exact h2
 have hf0:(Fi.mk g0.d (A0 g0.cs) (A7 g0.d) g0.tb).ok:=G7 _ (by rw[B6];have:=(hfc g0 (by simp)).1;omega) (D4 _) g0.d g0.sld
 have hf1:(Fi.mk g1.d (A0 g1.cs) (A7 g1.d) g1.tb).ok:=G7 _ (by rw[B6];have:=(hfc g1 (by simp)).1;omega) (D4 _) g1.d g1.sld
 have hf2:(Fi.mk g2.d (A0 g2.cs) (A7 g2.d) g2.tb).ok:=G7 _ (by rw[B6];have:=(hfc g2 (by simp)).1;omega) (D4 _) g2.d g2.sld
 have hK:=A4A t.nm dc dk df dx (B3 t.cs) (A0 t.ks) (A7 dc) (A7 dk) (V0 _ (by rw[G8];omega) (I3 _) dc h.dc) (G7 _ (by rw[B6];have:=h.hk;omega) (D4 _) dk h.dk) _ _ _ hf0 hf1 hf2 hdf2 t.xs h.hxb h.hxs h.dx
 have hcl:=G8 t.cs
 rw[show A7 dc=false by rw[hdc];rfl] at hK
 have q0:g0.d=B9 (A7 g0.d) (A0 g0.cs):=(O4 g0.sld).symm
 have q1:g1.d=B9 (A7 g1.d) (A0 g1.cs):=(O4 g1.sld).symm
 have q2:g2.d=B9 (A7 g2.d) (A0 g2.cs):=(O4 g2.sld).symm
 have hg:(B3 t.cs)[((i:Nat):Int).toNat]?=some [.str co.nm,eI co.k,.bool co.nl]:=M8 hco
 have hg2:(B3 t.cs)[i]?=some [.str co.nm,eI co.k,.bool co.nl]:=M8 hco
 have hmm:=I3 t.cs
 have hilt:i<(B3 t.cs).length:=by rw[hcl];exact(B2.1 hco).1
 have e1:B3 (t.cs.set i ⟨co.nm,2,co.nl⟩)=(B3 t.cs).set i [.str co.nm,eI 2,.bool co.nl]:=by unfold B3;rw[X5]
 rw[e1]
 obtain⟨k,nm,to,⟨cn,ck,cl⟩,⟨vk,vn,vs⟩⟩:=c
 dsimp only at hk
 subst hk
 have hF:Bi.Pure Tryz.prog U5 [eT t.nm dc dk df dx,.d (.str nm)] (.d (eI i)):=hF
 rw[show dF t.fs=B9 false (H9 [g0,g1,g2]) by rw[hfs];rfl]
 generalize B3 t.cs=Cs at hK hcl hg hg2 hmm hilt q0 q1 q2 ⊢
 generalize A0 t.ks=Ks at hK hcl hg hg2 hmm hilt q0 q1 q2 ⊢
 generalize xL (t.xs.map (C0 0))=Xs at hK hcl hg hg2 hmm hilt q0 q1 q2 ⊢
 generalize A7 dk=b2 at hK hcl hg hg2 hmm hilt q0 q1 q2 ⊢
 generalize A0 g0.cs=G0 at hK hcl hg hg2 hmm hilt q0 q1 q2 ⊢
 generalize A7 g0.d=n0 at hK hcl hg hg2 hmm hilt q0 q1 q2 ⊢
 generalize A0 g1.cs=G1 at hK hcl hg hg2 hmm hilt q0 q1 q2 ⊢
 generalize A7 g1.d=n1 at hK hcl hg hg2 hmm hilt q0 q1 q2 ⊢
 generalize A0 g2.cs=G2 at hK hcl hg hg2 hmm hilt q0 q1 q2 ⊢
 generalize A7 g2.d=n2 at hK hcl hg hg2 hmm hilt q0 q1 q2 ⊢
 obtain⟨u0,hu0⟩:∃x,x=g0.tb:=⟨_,rfl⟩
 rw[<- hu0] at hK
 obtain⟨u1,hu1⟩:∃x,x=g1.tb:=⟨_,rfl⟩
 rw[<- hu1] at hK
 obtain⟨u2,hu2⟩:∃x,x=g2.tb:=⟨_,rfl⟩
 rw[<- hu2] at hK
 refine B4.deepP (Q:=λr os=>r=.tup [.agg [.d (.str t.nm),.arr 5 (Cs.set i [.str co.nm,eI 2,.bool co.nl]).length,.arr 6 Ks.length,.rs 8 3,.arr 9 Xs.length],.d (eI 0)]/\os[5]?=some (.arr (Cs.set i [.str co.nm,eI 2,.bool co.nl]) 3 0 false)/\os[6]?=some (.arr Ks 1 0 b2)/\os[8]?=some (.rarr [[.arr 10 G0.length,.d (.str u0)],[.arr 11 G1.length,.d (.str u1)],[.arr 12 G2.length,.d (.str u2)]] 2 false)/\os[9]?=some (.arr Xs 7 0 Xs.isEmpty)/\os[10]?=some (.arr G0 1 0 n0)/\os[11]?=some (.arr G1 1 0 n1)/\os[12]?=some (.arr G2 1 0 n2)) ?_ ?_
 ·refine V1.goO2 A6 rfl ?_
  rw[V3]
  repeat' first|refine st ?_|((with_reducible first|apply A9|apply A8);(·first|exact hC|exact hF))|((with_reducible first|apply I6|apply D5);(·exact hK);(try rintro _ _ ⟨rfl,rfl⟩))|((with_reducible apply I7);(·exact hK))|((with_reducible apply H6);refine st ?_;(with_reducible apply I5);(·exact rfl);refine st ?_;(with_reducible apply D5);(·exact hK);(try rintro _ _ ⟨rfl,rfl⟩))|(with_reducible first|apply A5|apply A4)<;>intro _
  exact⟨rfl,rfl,rfl,rfl,rfl,rfl,rfl,rfl⟩
 ·rintro r os ⟨rfl,hx0,hx1,hx2,hx3,hx4,hx5,hx6⟩
  refine V5 (rows:=[[.arr 10 G0.length,.d (.str u0)],[.arr 11 G1.length,.d (.str u1)],[.arr 12 G2.length,.d (.str u2)]]) (fs:=[g0,g1,g2]) (.inl (.inr ⟨5,_,3,0,false,rfl,hx0,rfl⟩)) hx1 hx2 hx3 rfl (λi e g he hg=>?_)
  match i,he,hg with
  |0,he,hg=>cases he;cases hg;exact⟨10,_,n0,by rw[hu0],hx4,q0⟩
  |1,he,hg=>cases he;cases hg;exact⟨11,_,n1,by rw[hu1],hx5,q1⟩
  |2,he,hg=>cases he;cases hg;exact⟨12,_,n2,by rw[hu2],hx6,q2⟩
  |i+3,he,hg=>simp at he
theorem B9M(t:Tb)(dc dk df dx:D)(h:O0 t dc dk df dx)(c:Ch)(hc:I1 c)(hq:D7 t c=0)(g0 g1 g2:Fo)(hfs:t.fs=[g0,g1,g2])(hk:c.k=2)(i:Nat)(hi:D8 c.nm t.cs=i)(hil:i<t.cs.length)(hdc:dc=.sl (B3 t.cs))(hkb:∀k∈t.ks,0<=k/\k<=1048576)(hfb:∀g∈t.fs,∀k∈g.cs,0<=k/\k<=1048576)(hxb:∀e∈t.xs.map (C0 0),e.bk<=1048576) :
  Pure Tryz.prog Q6 [eT t.nm dc dk df dx,c.av] (.tup [eT t.nm (.sl (B3 (t.cs.eraseIdx i))) (B9 (A7 dk) (A0 (t.ks.map λc=>B0 c i))) (dF (t.fs.map (I0 i))) (B9 (xL (t.xs.map (C0 0))).isEmpty (xL ((t.xs.map (C0 0)).map (E3 (H5 t.cs.length i))))),.d (eI 0)]):=by
 have hC:=U3 t dc dk df dx h c hc
 rw[hq] at hC
 have hF:=S6 t.nm t.cs h.hl dc dk df dx h.dc c.nm
 have hl:=h.hl
 have hdf:=h.df
 have hfc:=h.hfc
 rw[hfs] at hdf hfc
 rw[hi] at hF
 have hdf2:df=.sl (R4 [⟨g0.d,A0 g0.cs,A7 g0.d,g0.tb⟩,⟨g1.d,A0 g1.cs,A7 g1.d,g1.tb⟩,⟨g2.d,A0 g2.cs,A7 g2.d,g2.tb⟩]):=by
  rcases hdf with ⟨_,h2⟩|h2
  ·cases h2
  ·exact h2
 have hf0:(Fi.mk g0.d (A0 g0.cs) (A7 g0.d) g0.tb).ok:=G7 _ (by rw[B6];have:=(hfc g0 (by simp)).1;omega) (D4 _) g0.d g0.sld
 have hf1:(Fi.mk g1.d (A0 g1.cs) (A7 g1.d) g1.tb).ok:=G7 _ (by rw[B6];have:=(hfc g1 (by simp)).1;omega) (D4 _) g1.d g1.sld
 have hf2:(Fi.mk g2.d (A0 g2.cs) (A7 g2.d) g2.tb).ok:=G7 _ (by rw[B6];have:=(hfc g2 (by simp)).1;omega) (D4 _) g2.d g2.sld
 have hK:=A4A t.nm dc dk df dx (B3 t.cs) (A0 t.ks) (A7 dc) (A7 dk) (V0 _ (by rw[G8];omega) (I3 _) dc h.dc) (G7 _ (by rw[B6];have:=h.hk;omega) (D4 _) dk h.dk) _ _ _ hf0 hf1 hf2 hdf2 t.xs h.hxb h.hxs h.dx
 have hcl:=G8 t.cs
 rw[show A7 dc=false by rw[hdc];rfl] at hK
 have hkN:A7 dk=true->t.ks=[]:=λhh=>by
  have:=l4 h.dk hh
  cases hks:t.ks with
  |nil=>rfl
  |cons a l=>rw[hks] at this;cases this
 have hxN:(xL (t.xs.map (C0 0))).isEmpty=true->t.xs.map (C0 0)=[]:=by
  intro hh
  cases hx:t.xs.map (C0 0) with
  |nil=>rfl
  |cons a l=>rw[hx] at hh;cases hh
 have hN0:A7 g0.d=true->g0.cs=[]:=λhh=>by
  have:=l4 g0.sld hh
  cases hks:g0.cs with
  |nil=>rfl
  |cons a l=>rw[hks] at this;cases this
 have hB0:=hfb g0 (by rw[hfs];simp)
 have hN1:A7 g1.d=true->g1.cs=[]:=λhh=>by
  have:=l4 g1.sld hh
  cases hks:g1.cs with
  |nil=>rfl
  |cons a l=>rw[hks] at this;cases this
 have hB1:=hfb g1 (by rw[hfs];simp)
 have hN2:A7 g2.d=true->g2.cs=[]:=λhh=>by
  have:=l4 g2.sld hh
  cases hks:g2.cs with
  |nil=>rfl
  |cons a l=>rw[hks] at this;cases this
 have hB2:=hfb g2 (by rw[hfs];simp)
 have hD:=λT0 T1 T2 T3 T4 T7=>C0d T0 T1 T2 T3 T4 T7 t.nm (B3 t.cs) (I3 _) i (by rw[hcl];exact hil) (by rw[hcl];exact hl) t.ks hkb h.hk (A7 dk) hkN (t.xs.map (C0 0)) (by rw[C7];exact h.hxs) hxb _ hxN g0.cs (A7 g0.d) g0.tb (hfc g0 (by simp)).1 hB0 hN0 g1.cs (A7 g1.d) g1.tb (hfc g1 (by simp)).1 hB1 hN1 g2.cs (A7 g2.d) g2.tb (hfc g2 (by simp)).1 hB2 hN2
 rw[hcl] at hD
 have hkl2:(A0 (t.ks.map λc=>B0 c i)).length=(A0 t.ks).length:=by rw[B6,B6,C7]
 have hxl2:(xL ((t.xs.map (C0 0)).map (E3 (H5 t.cs.length i)))).length=(xL (t.xs.map (C0 0))).length:=by rw[I8,I8,C7]
 have hkl20:(A0 (g0.cs.map λc=>B0 c i)).length=(A0 g0.cs).length:=by rw[B6,B6,C7]
 have hkl21:(A0 (g1.cs.map λc=>B0 c i)).length=(A0 g1.cs).length:=by rw[B6,B6,C7]
 have hkl22:(A0 (g2.cs.map λc=>B0 c i)).length=(A0 g2.cs).length:=by rw[B6,B6,C7]
 have q0:(I0 i g0).d=B9 (A7 g0.d) (A0 (g0.cs.map λc=>B0 c i)):=A17 i g0
 have q1:(I0 i g1).d=B9 (A7 g1.d) (A0 (g1.cs.map λc=>B0 c i)):=A17 i g1
 have q2:(I0 i g2).d=B9 (A7 g2.d) (A0 (g2.cs.map λc=>B0 c i)):=A17 i g2
 have e1:B3 (t.cs.eraseIdx i)=(B3 t.cs).eraseIdx i:=A5s _ _
 rw[e1]
 obtain⟨k,nm,to,⟨cn,ck,cl⟩,⟨vk,vn,vs⟩⟩:=c
 dsimp only at hk
 subst hk
 have hF:Bi.Pure Tryz.prog U5 [eT t.nm dc dk df dx,.d (.str nm)] (.d (eI i)):=hF
 rw[show dF (t.fs.map (I0 i))=B9 false (H9 [I0 i g0,I0 i g1,I0 i g2]) by rw[hfs];rfl]
 rw[hcl] at hK
 generalize A0 (t.ks.map λc=>B0 c i)=K2 at hK hcl hkl2 hxl2 hkl20 hkl21 hkl22 q0 q1 q2 hD ⊢
 generalize xL ((t.xs.map (C0 0)).map (E3 (H5 t.cs.length i)))=X2 at hK hcl hkl2 hxl2 hkl20 hkl21 hkl22 q0 q1 q2 hD ⊢
 generalize (B3 t.cs).eraseIdx i=E2 at hK hcl hkl2 hxl2 hkl20 hkl21 hkl22 q0 q1 q2 hD ⊢
 generalize A0 (g0.cs.map λc=>B0 c i)=H0 at hK hcl hkl2 hxl2 hkl20 hkl21 hkl22 q0 q1 q2 hD ⊢
 generalize A0 (g1.cs.map λc=>B0 c i)=H1 at hK hcl hkl2 hxl2 hkl20 hkl21 hkl22 q0 q1 q2 hD ⊢
 generalize A0 (g2.cs.map λc=>B0 c i)=H2 at hK hcl hkl2 hxl2 hkl20 hkl21 hkl22 q0 q1 q2 hD ⊢
 generalize B3 t.cs=Cs at hK hcl hkl2 hxl2 hkl20 hkl21 hkl22 q0 q1 q2 hD ⊢
 generalize A0 t.ks=Ks at hK hcl hkl2 hxl2 hkl20 hkl21 hkl22 q0 q1 q2 hD ⊢
 generalize xL (t.xs.map (C0 0))=Xs at hK hcl hkl2 hxl2 hkl20 hkl21 hkl22 q0 q1 q2 hD ⊢
 generalize A7 dk=b2 at hK hcl hkl2 hxl2 hkl20 hkl21 hkl22 q0 q1 q2 hD ⊢
 generalize A0 g0.cs=G0 at hK hcl hkl2 hxl2 hkl20 hkl21 hkl22 q0 q1 q2 hD ⊢
 generalize A7 g0.d=n0 at hK hcl hkl2 hxl2 hkl20 hkl21 hkl22 q0 q1 q2 hD ⊢
 generalize A0 g1.cs=G1 at hK hcl hkl2 hxl2 hkl20 hkl21 hkl22 q0 q1 q2 hD ⊢
 generalize A7 g1.d=n1 at hK hcl hkl2 hxl2 hkl20 hkl21 hkl22 q0 q1 q2 hD ⊢
 generalize A0 g2.cs=G2 at hK hcl hkl2 hxl2 hkl20 hkl21 hkl22 q0 q1 q2 hD ⊢
 generalize A7 g2.d=n2 at hK hcl hkl2 hxl2 hkl20 hkl21 hkl22 q0 q1 q2 hD ⊢
 obtain⟨u0,hu0⟩:∃x,x=g0.tb:=⟨_,rfl⟩
 rw[<- hu0] at hK
 simp only[<- hu0] at hD
 obtain⟨u1,hu1⟩:∃x,x=g1.tb:=⟨_,rfl⟩
 rw[<- hu1] at hK
 simp only[<- hu1] at hD
 obtain⟨u2,hu2⟩:∃x,x=g2.tb:=⟨_,rfl⟩
 rw[<- hu2] at hK
 simp only[<- hu2] at hD
 refine B4.deepP (Q:=λr os=>r=.tup [.agg [.d (.str t.nm),.d (.sl E2),.arr 6 K2.length,.rs 8 3,.arr 9 X2.length],.d (eI 0)]/\os[6]?=some (.arr K2 1 0 b2)/\os[8]?=some (.rarr [[.arr 10 H0.length,.d (.str u0)],[.arr 11 H1.length,.d (.str u1)],[.arr 12 H2.length,.d (.str u2)]] 2 false)/\os[9]?=some (.arr X2 7 0 Xs.isEmpty)/\os[10]?=some (.arr H0 1 0 n0)/\os[11]?=some (.arr H1 1 0 n1)/\os[12]?=some (.arr H2 1 0 n2)) ?_ ?_
 ·rw[hkl2,hxl2]
  rw[hkl20,hkl21,hkl22]
  refine V1.goO2 A6 rfl ?_
  repeat' first|refine st ?_|((with_reducible first|apply A9|apply A8);(·first|exact hC|exact hF))|((with_reducible first|apply I6|apply D5);(·first|exact hK|exact hD _ _ _ _ _ _);(try rintro _ _ ⟨rfl,rfl⟩))|((with_reducible apply I7);(·first|exact hK|exact hD _ _ _ _ _ _))|((with_reducible apply H6);refine st ?_;(with_reducible apply I5);(·exact rfl);refine st ?_;(with_reducible apply D5);(·first|exact hK|exact hD _ _ _ _ _ _);(try rintro _ _ ⟨rfl,rfl⟩))|(with_reducible first|apply A5|apply A4)<;>intro _
  exact⟨rfl,rfl,rfl,rfl,rfl,rfl,rfl⟩
 ·rintro r os ⟨rfl,hx0,hx1,hx2,hx3,hx4,hx5⟩
  refine V5 (rows:=[[.arr 10 H0.length,.d (.str u0)],[.arr 11 H1.length,.d (.str u1)],[.arr 12 H2.length,.d (.str u2)]]) (fs:=[I0 i g0,I0 i g1,I0 i g2]) (.inl (.inl rfl)) hx0 hx1 hx2 rfl (λi e g he hg=>?_)
  match i,he,hg with
  |0,he,hg=>cases he;cases hg;exact⟨10,_,n0,by rw[hu0];rfl,hx3,q0⟩
  |1,he,hg=>cases he;cases hg;exact⟨11,_,n1,by rw[hu1];rfl,hx4,q1⟩
  |2,he,hg=>cases he;cases hg;exact⟨12,_,n2,by rw[hu2];rfl,hx5,q2⟩
  |i+3,he,hg=>simp at he
end Go.Proofs
end
section
set_option maxHeartbeats 8000000
namespace Go.Proofs
open Go.Bi
theorem C0e(nm:List UInt8)(es:List (List D))(hm:∀e∈es,e.length=3)(i:Nat)(hi:i<es.length)(hel:es.length<=1048576)(ks:List Int)(hkb:∀k∈ks,0<=k/\k<=1048576)(hkl:ks.length<=1048576)(kn:Bool)(hkn:kn=true->ks=[])(xs:List Ex)(hxl:xs.length<=1048576)(hxb:∀e∈xs,e.bk<=1048576)(xn:Bool)(hxn:xn=true->xs=[])(c0:List Int)(b0:Bool)(t0:List UInt8)(hc0:c0.length<=1048576)(hcb0:∀k∈c0,0<=k/\k<=1048576)(hn0:b0=true->c0=[])(c1:List Int)(b1:Bool)(t1:List UInt8)(hc1:c1.length<=1048576)(hcb1:∀k∈c1,0<=k/\k<=1048576)(hn1:b1=true->c1=[])(c2:List Int)(b2:Bool)(t2:List UInt8)(hc2:c2.length<=1048576)(hcb2:∀k∈c2,0<=k/\k<=1048576)(hn2:b2=true->c2=[])(c3:List Int)(b3:Bool)(t3:List UInt8)(hc3:c3.length<=1048576)(hcb3:∀k∈c3,0<=k/\k<=1048576)(hn3:b3=true->c3=[]) :
  B4 Tryz.prog A0r [.ptr 0 0,.d (eI i)] [.cells [.d (.str nm),.arr 1 es.length,.arr 2 (A0 ks).length,.rs 3 4,.arr 4 (xL xs).length],.arr es 3 0 false,.arr (A0 ks) 1 0 kn,.rarr [[.arr 5 (A0 c0).length,.d (.str t0)],[.arr 6 (A0 c1).length,.d (.str t1)],[.arr 7 (A0 c2).length,.d (.str t2)],[.arr 8 (A0 c3).length,.d (.str t3)]] 2 false,.arr (xL xs) 7 0 xn,.arr (A0 c0) 1 0 b0,.arr (A0 c1) 1 0 b1,.arr (A0 c2) 1 0 b2,.arr (A0 c3) 1 0 b3]
   (λr os=>r=.tup []/\os=[.cells [.d (.str nm),.d (.sl (es.eraseIdx i)),.arr 2 (A0 ks).length,.rs 3 4,.arr 4 (xL xs).length],.arr (es.eraseIdx i++[L7]) 3 (es.length-1) false,.arr (A0 (ks.map λc=>B0 c i)) 1 0 kn,.rarr [[.arr 5 (A0 c0).length,.d (.str t0)],[.arr 6 (A0 c1).length,.d (.str t1)],[.arr 7 (A0 c2).length,.d (.str t2)],[.arr 8 (A0 c3).length,.d (.str t3)]] 2 false,.arr (xL (xs.map (E3 (H5 es.length i)))) 7 0 xn,.arr (A0 (c0.map λc=>B0 c i)) 1 0 b0,.arr (A0 (c1.map λc=>B0 c i)) 1 0 b1,.arr (A0 (c2.map λc=>B0 c i)) 1 0 b2,.arr (A0 (c3.map λc=>B0 c i)) 1 0 b3]):=by
 have hD:=fun {os:List AO} (ho:os[1]?=some (.arr es 3 0 false))=>A4F es hm i hi ho
 refine A4J.goX A6 rfl ?_
 repeat' first|refine st ?_|(with_reducible first|apply A5|apply A4)<;>intro _
 refine r8 4 7 rfl rfl ?_
 repeat' first|refine st ?_|(with_reducible first|apply A5|apply A4)<;>intro _
 refine P5 A6 A4U A4P (λ(k:Nat) (A:List (List D))=>[.arr 9 A.length,.d (eI k)]) (λk A=>[.cells [.d (.str nm),.arr 1 es.length,.arr 2 (A0 ks).length,.rs 3 4,.arr 4 (xL xs).length],.arr es 3 0 false,.arr (A0 ks) 1 0 kn,.rarr [[.arr 5 (A0 c0).length,.d (.str t0)],[.arr 6 (A0 c1).length,.d (.str t1)],[.arr 7 (A0 c2).length,.d (.str t2)],[.arr 8 (A0 c3).length,.d (.str t3)]] 2 false,.arr (xL xs) 7 0 xn,.arr (A0 c0) 1 0 b0,.arr (A0 c1) 1 0 b1,.arr (A0 c2) 1 0 b2,.arr (A0 c3) 1 0 b3,.arr A 7 0 A.isEmpty]) (λk A=>k<=es.length/\A=xL (H5 k i)) (λk A=>es.length-k) 0 [] rfl rfl rfl rfl (λ_ _ _=>⟨rfl,rfl⟩) rfl ⟨by omega,by simp[H5,xL]⟩ ?_
 repeat' first|refine st ?_|(with_reducible first|apply A5|apply A4)<;>intro _
 intro k A ⟨h4,h5⟩
 have hAl:A.length=k:=by rw[h5,I8,A0Q]
 have hAm:∀e∈A,e.length=7:=by rw[h5];exact P0 _
 by_cases hlt:k<es.length
 ·have hB:=W0 k i (by omega) (by omega)
  have hs:=A5U k i
  rw[<- h5] at hs
  obtain⟨b,hb⟩:∃b,b=B0 k i:=⟨_,rfl⟩
  rw[<- hb] at hB hs
  clear h5
  repeat' first|refine st ?_|((with_reducible first|apply A9|apply A8);(·exact hB))|(with_reducible first|apply A5|apply A4)<;>intro _
  refine⟨k+1,A++[[.int .i64 2,eI b,.int .i64 0,.int .i64 0,.str [],.str [],.nil]],?_,rfl,?_,by omega,by omega,hs⟩
  ·rfl
  ·rw[show(A++[[.int .i64 2,eI b,.int .i64 0,.int .i64 0,.str [],.str [],.nil]]).isEmpty=false by simp]
   first|rfl|skip
 ·have hke:k=es.length:=by omega
  rw[hke] at h5
  have hDc:=hD (os:=[.cells [.d (.str nm),.arr 1 es.length,.arr 2 (A0 ks).length,.rs 3 4,.arr 4 (xL xs).length],.arr es 3 0 false,.arr (A0 ks) 1 0 kn,.rarr [[.arr 5 (A0 c0).length,.d (.str t0)],[.arr 6 (A0 c1).length,.d (.str t1)],[.arr 7 (A0 c2).length,.d (.str t2)],[.arr 8 (A0 c3).length,.d (.str t3)]] 2 false,.arr (xL xs) 7 0 xn,.arr (A0 c0) 1 0 b0,.arr (A0 c1) 1 0 b1,.arr (A0 c2) 1 0 b2,.arr (A0 c3) 1 0 b3,.arr A 7 0 A.isEmpty]) rfl
  obtain⟨es',hes'⟩:∃e,e=es.eraseIdx i:=⟨_,rfl⟩
  rw[<- hes'] at hDc ⊢
  obtain⟨M0,hM0⟩:∃L,L=H5 es.length i:=⟨_,rfl⟩
  have hMl:M0.length<=1048576:=by rw[hM0,A0Q];exact hel
  rw[<- hM0] at h5 ⊢
  obtain⟨N0,hN0⟩:∃K,K=A0 (c0.map λc=>B0 c i):=⟨_,rfl⟩
  obtain⟨N1,hN1⟩:∃K,K=A0 (c1.map λc=>B0 c i):=⟨_,rfl⟩
  obtain⟨N2,hN2⟩:∃K,K=A0 (c2.map λc=>B0 c i):=⟨_,rfl⟩
  obtain⟨N3,hN3⟩:∃K,K=A0 (c3.map λc=>B0 c i):=⟨_,rfl⟩
  rw[<- hN0,<- hN1,<- hN2,<- hN3]
  repeat' first|(with_reducible apply H6)|refine st ?_|((with_reducible first|apply I6|apply D5);(·exact hDc);(try rintro _ _ ⟨rfl,rfl⟩))|((with_reducible apply I7);(·exact hDc))|((with_reducible apply H6);refine st ?_;(with_reducible apply I5);(·exact rfl);refine st ?_;(with_reducible apply D5);(·exact hDc);(try rintro _ _ ⟨rfl,rfl⟩))|(with_reducible first|apply A5|apply A4)<;>intro _
  refine G6 A6 A4V A4Q (λ(j:Nat)=>[.d (eI j)]) (λj=>[.cells [.d (.str nm),.d (.sl es'),.arr 2 (A0 ks).length,.rs 3 4,.arr 4 (xL xs).length],.arr (es'++[L7]) 3 (es.length-1) false,.arr (A0 (D3 ks (λc=>B0 c i) j)) 1 0 kn,.rarr [[.arr 5 (A0 c0).length,.d (.str t0)],[.arr 6 (A0 c1).length,.d (.str t1)],[.arr 7 (A0 c2).length,.d (.str t2)],[.arr 8 (A0 c3).length,.d (.str t3)]] 2 false,.arr (xL xs) 7 0 xn,.arr (A0 c0) 1 0 b0,.arr (A0 c1) 1 0 b1,.arr (A0 c2) 1 0 b2,.arr (A0 c3) 1 0 b3,.arr A 7 0 A.isEmpty]) (λj=>j<=ks.length) (λj=>ks.length-j) 0 rfl rfl rfl (by rw[o8];rfl) (λ_ _=>⟨rfl,rfl⟩) rfl (by omega) ?_
  repeat' first|refine st ?_|(with_reducible first|apply A5|apply A4)<;>intro _
  intro j h6
  have hKl:=o6 ks (λc=>B0 c i) j h6
  cases hy:ks[j]? with
  |some c=>
   obtain⟨hlt2,he2⟩:=B2.1 hy
   have hkf:kn=false:=by
    cases kn with
    |false=>rfl
    |true=>rw[hkn rfl] at hlt2;simp at hlt2
   subst hkf
   have hg:=O2 (o5 (λc=>B0 c i) hy)
   have hset:=o7 (λc=>B0 c i) hy
   obtain⟨cb1,cb2⟩:=hkb c (C3 hy)
   have hB:=W0 c i (by omega) (by omega)
   have hks:=B6 ks
   obtain⟨y,hyy⟩:∃y,y=B0 c i:=⟨_,rfl⟩
   rw[<- hyy] at hB hset
   have hset2:(A0 (D3 ks (λc=>B0 c i) j)).set j [eI y]=A0 (D3 ks (λc=>B0 c i) (j+1)):=by rw[n6,hset]
   have hml:=B6 (D3 ks (λc=>B0 c i) j)
   have hmm2:=D4 (D3 ks (λc=>B0 c i) j)
   obtain⟨X,hX⟩:∃X,X=A0 (D3 ks (λc=>B0 c i) j):=⟨_,rfl⟩
   rw[<- hX] at hg hset2 hml hmm2 ⊢
   repeat' first|refine st ?_|((with_reducible first|apply A9|apply A8);(·exact hB))|(with_reducible first|apply A5|apply A4)<;>intro _
   refine⟨j+1,rfl,rfl,?_,by omega,by omega⟩
   rw[show((j:Int)).toNat=j from K8 j,hset2]
  |none=>
   have hge:=E4.1 hy
   have hjk:j=ks.length:=by omega
   subst hjk
   rw[o4]
   have hks:=B6 ks
   obtain⟨K',hK'⟩:∃K,K=A0 (ks.map λc=>B0 c i):=⟨_,rfl⟩
   rw[<- hK']
   repeat' first|refine st ?_|(with_reducible first|apply A5|apply A4)<;>intro _
   refine A1A 5 ?_
   refine Q3 A6 ?_
   repeat' first|refine st ?_|(with_reducible first|apply A5|apply A4)<;>intro _
   refine G6 A6 A15 A14 (λ(j:Nat)=>[.d (eI j)]) (λj=>[.cells [.d (.str nm),.d (.sl es'),.arr 2 (A0 ks).length,.rs 3 4,.arr 4 (xL xs).length],.arr (es'++[L7]) 3 (es.length-1) false,.arr K' 1 0 kn,.rarr [[.arr 5 (A0 c0).length,.d (.str t0)],[.arr 6 (A0 c1).length,.d (.str t1)],[.arr 7 (A0 c2).length,.d (.str t2)],[.arr 8 (A0 c3).length,.d (.str t3)]] 2 false,.arr (xL xs) 7 0 xn,.arr (A0 (D3 c0 (λc=>B0 c i) j)) 1 0 b0,.arr (A0 c1) 1 0 b1,.arr (A0 c2) 1 0 b2,.arr (A0 c3) 1 0 b3,.arr A 7 0 A.isEmpty,.cells [.arr 5 (A0 c0).length,.d (.str t0)]]) (λj=>j<=c0.length) (λj=>c0.length-j) 0 rfl rfl rfl (by rw[o8];rfl) (λ_ _=>⟨rfl,rfl⟩) rfl (by omega) ?_
   repeat' first|refine st ?_|(with_reducible first|apply A5|apply A4)<;>intro _
   intro j h6
   have hKl:=o6 c0 (λc=>B0 c i) j h6
   cases hy:c0[j]? with
   |some c=>
    obtain⟨hlt2,he2⟩:=B2.1 hy
    have hkf:b0=false:=by
     cases b0 with
     |false=>rfl
     |true=>rw[hn0 rfl] at hlt2;simp at hlt2
    subst hkf
    have hg:=O2 (o5 (λc=>B0 c i) hy)
    have hset:=o7 (λc=>B0 c i) hy
    obtain⟨cb1,cb2⟩:=hcb0 c (C3 hy)
    have hB:=W0 c i (by omega) (by omega)
    have hks:=B6 c0
    obtain⟨y,hyy⟩:∃y,y=B0 c i:=⟨_,rfl⟩
    rw[<- hyy] at hB hset
    have hset2:(A0 (D3 c0 (λc=>B0 c i) j)).set j [eI y]=A0 (D3 c0 (λc=>B0 c i) (j+1)):=by rw[n6,hset]
    have hml:=B6 (D3 c0 (λc=>B0 c i) j)
    have hmm2:=D4 (D3 c0 (λc=>B0 c i) j)
    obtain⟨X,hX⟩:∃X,X=A0 (D3 c0 (λc=>B0 c i) j):=⟨_,rfl⟩
    rw[<- hX] at hg hset2 hml hmm2 ⊢
    repeat' first|refine st ?_|((with_reducible first|apply A9|apply A8);(·exact hB))|(with_reducible first|apply A5|apply A4)<;>intro _
    refine⟨j+1,rfl,rfl,?_,by omega,by omega⟩
    rw[show((j:Int)).toNat=j from K8 j,hset2]
   |none=>
    have hge:=E4.1 hy
    have hjk:j=c0.length:=by omega
    subst hjk
    rw[o4]
    have hks:=B6 c0
    rw[<- hN0]
    repeat' first|refine st ?_|(with_reducible first|apply A5|apply A4)<;>intro _
    refine Q3 A6 ?_
    repeat' first|refine st ?_|(with_reducible first|apply A5|apply A4)<;>intro _
    refine G6 A6 A15 A14 (λ(j:Nat)=>[.d (eI j)]) (λj=>[.cells [.d (.str nm),.d (.sl es'),.arr 2 (A0 ks).length,.rs 3 4,.arr 4 (xL xs).length],.arr (es'++[L7]) 3 (es.length-1) false,.arr K' 1 0 kn,.rarr [[.arr 5 (A0 c0).length,.d (.str t0)],[.arr 6 (A0 c1).length,.d (.str t1)],[.arr 7 (A0 c2).length,.d (.str t2)],[.arr 8 (A0 c3).length,.d (.str t3)]] 2 false,.arr (xL xs) 7 0 xn,.arr N0 1 0 b0,.arr (A0 (D3 c1 (λc=>B0 c i) j)) 1 0 b1,.arr (A0 c2) 1 0 b2,.arr (A0 c3) 1 0 b3,.arr A 7 0 A.isEmpty,.cells [.arr 5 (A0 c0).length,.d (.str t0)],.cells [.arr 6 (A0 c1).length,.d (.str t1)]]) (λj=>j<=c1.length) (λj=>c1.length-j) 0 rfl rfl rfl (by rw[o8];rfl) (λ_ _=>⟨rfl,rfl⟩) rfl (by omega) ?_
    repeat' first|refine st ?_|(with_reducible first|apply A5|apply A4)<;>intro _
    intro j h6
    have hKl:=o6 c1 (λc=>B0 c i) j h6
    cases hy:c1[j]? with
    |some c=>
     obtain⟨hlt2,he2⟩:=B2.1 hy
     have hkf:b1=false:=by
      cases b1 with
      |false=>rfl
      |true=>rw[hn1 rfl] at hlt2;simp at hlt2
     subst hkf
     have hg:=O2 (o5 (λc=>B0 c i) hy)
     have hset:=o7 (λc=>B0 c i) hy
     obtain⟨cb1,cb2⟩:=hcb1 c (C3 hy)
     have hB:=W0 c i (by omega) (by omega)
     have hks:=B6 c1
     obtain⟨y,hyy⟩:∃y,y=B0 c i:=⟨_,rfl⟩
     rw[<- hyy] at hB hset
     have hset2:(A0 (D3 c1 (λc=>B0 c i) j)).set j [eI y]=A0 (D3 c1 (λc=>B0 c i) (j+1)):=by rw[n6,hset]
     have hml:=B6 (D3 c1 (λc=>B0 c i) j)
     have hmm2:=D4 (D3 c1 (λc=>B0 c i) j)
     obtain⟨X,hX⟩:∃X,X=A0 (D3 c1 (λc=>B0 c i) j):=⟨_,rfl⟩
     rw[<- hX] at hg hset2 hml hmm2 ⊢
     repeat' first|refine st ?_|((with_reducible first|apply A9|apply A8);(·exact hB))|(with_reducible first|apply A5|apply A4)<;>intro _
     refine⟨j+1,rfl,rfl,?_,by omega,by omega⟩
     rw[show((j:Int)).toNat=j from K8 j,hset2]
    |none=>
     have hge:=E4.1 hy
     have hjk:j=c1.length:=by omega
     subst hjk
     rw[o4]
     have hks:=B6 c1
     rw[<- hN1]
     repeat' first|refine st ?_|(with_reducible first|apply A5|apply A4)<;>intro _
     refine Q3 A6 ?_
     repeat' first|refine st ?_|(with_reducible first|apply A5|apply A4)<;>intro _
     refine G6 A6 A15 A14 (λ(j:Nat)=>[.d (eI j)]) (λj=>[.cells [.d (.str nm),.d (.sl es'),.arr 2 (A0 ks).length,.rs 3 4,.arr 4 (xL xs).length],.arr (es'++[L7]) 3 (es.length-1) false,.arr K' 1 0 kn,.rarr [[.arr 5 (A0 c0).length,.d (.str t0)],[.arr 6 (A0 c1).length,.d (.str t1)],[.arr 7 (A0 c2).length,.d (.str t2)],[.arr 8 (A0 c3).length,.d (.str t3)]] 2 false,.arr (xL xs) 7 0 xn,.arr N0 1 0 b0,.arr N1 1 0 b1,.arr (A0 (D3 c2 (λc=>B0 c i) j)) 1 0 b2,.arr (A0 c3) 1 0 b3,.arr A 7 0 A.isEmpty,.cells [.arr 5 (A0 c0).length,.d (.str t0)],.cells [.arr 6 (A0 c1).length,.d (.str t1)],.cells [.arr 7 (A0 c2).length,.d (.str t2)]]) (λj=>j<=c2.length) (λj=>c2.length-j) 0 rfl rfl rfl (by rw[o8];rfl) (λ_ _=>⟨rfl,rfl⟩) rfl (by omega) ?_
     repeat' first|refine st ?_|(with_reducible first|apply A5|apply A4)<;>intro _
     intro j h6
     have hKl:=o6 c2 (λc=>B0 c i) j h6
     cases hy:c2[j]? with
     |some c=>
      obtain⟨hlt2,he2⟩:=B2.1 hy
      have hkf:b2=false:=by
       cases b2 with
       |false=>rfl
       |true=>rw[hn2 rfl] at hlt2;simp at hlt2
      subst hkf
      have hg:=O2 (o5 (λc=>B0 c i) hy)
      have hset:=o7 (λc=>B0 c i) hy
      obtain⟨cb1,cb2⟩:=hcb2 c (C3 hy)
      have hB:=W0 c i (by omega) (by omega)
      have hks:=B6 c2
      obtain⟨y,hyy⟩:∃y,y=B0 c i:=⟨_,rfl⟩
      rw[<- hyy] at hB hset
      have hset2:(A0 (D3 c2 (λc=>B0 c i) j)).set j [eI y]=A0 (D3 c2 (λc=>B0 c i) (j+1)):=by rw[n6,hset]
      have hml:=B6 (D3 c2 (λc=>B0 c i) j)
      have hmm2:=D4 (D3 c2 (λc=>B0 c i) j)
      obtain⟨X,hX⟩:∃X,X=A0 (D3 c2 (λc=>B0 c i) j):=⟨_,rfl⟩
      rw[<- hX] at hg hset2 hml hmm2 ⊢
      repeat' first|refine st ?_|((with_reducible first|apply A9|apply A8);(·exact hB))|(with_reducible first|apply A5|apply A4)<;>intro _
      refine⟨j+1,rfl,rfl,?_,by omega,by omega⟩
      rw[show((j:Int)).toNat=j from K8 j,hset2]
     |none=>
      have hge:=E4.1 hy
      have hjk:j=c2.length:=by omega
      subst hjk
      rw[o4]
      have hks:=B6 c2
      rw[<- hN2]
      repeat' first|refine st ?_|(with_reducible first|apply A5|apply A4)<;>intro _
      refine Q3 A6 ?_
      repeat' first|refine st ?_|(with_reducible first|apply A5|apply A4)<;>intro _
      refine G6 A6 A15 A14 (λ(j:Nat)=>[.d (eI j)]) (λj=>[.cells [.d (.str nm),.d (.sl es'),.arr 2 (A0 ks).length,.rs 3 4,.arr 4 (xL xs).length],.arr (es'++[L7]) 3 (es.length-1) false,.arr K' 1 0 kn,.rarr [[.arr 5 (A0 c0).length,.d (.str t0)],[.arr 6 (A0 c1).length,.d (.str t1)],[.arr 7 (A0 c2).length,.d (.str t2)],[.arr 8 (A0 c3).length,.d (.str t3)]] 2 false,.arr (xL xs) 7 0 xn,.arr N0 1 0 b0,.arr N1 1 0 b1,.arr N2 1 0 b2,.arr (A0 (D3 c3 (λc=>B0 c i) j)) 1 0 b3,.arr A 7 0 A.isEmpty,.cells [.arr 5 (A0 c0).length,.d (.str t0)],.cells [.arr 6 (A0 c1).length,.d (.str t1)],.cells [.arr 7 (A0 c2).length,.d (.str t2)],.cells [.arr 8 (A0 c3).length,.d (.str t3)]]) (λj=>j<=c3.length) (λj=>c3.length-j) 0 rfl rfl rfl (by rw[o8];rfl) (λ_ _=>⟨rfl,rfl⟩) rfl (by omega) ?_
      repeat' first|refine st ?_|(with_reducible first|apply A5|apply A4)<;>intro _
      intro j h6
      have hKl:=o6 c3 (λc=>B0 c i) j h6
      cases hy:c3[j]? with
      |some c=>
       obtain⟨hlt2,he2⟩:=B2.1 hy
       have hkf:b3=false:=by
        cases b3 with
        |false=>rfl
        |true=>rw[hn3 rfl] at hlt2;simp at hlt2
       subst hkf
       have hg:=O2 (o5 (λc=>B0 c i) hy)
       have hset:=o7 (λc=>B0 c i) hy
       obtain⟨cb1,cb2⟩:=hcb3 c (C3 hy)
       have hB:=W0 c i (by omega) (by omega)
       have hks:=B6 c3
       obtain⟨y,hyy⟩:∃y,y=B0 c i:=⟨_,rfl⟩
       rw[<- hyy] at hB hset
       have hset2:(A0 (D3 c3 (λc=>B0 c i) j)).set j [eI y]=A0 (D3 c3 (λc=>B0 c i) (j+1)):=by rw[n6,hset]
       have hml:=B6 (D3 c3 (λc=>B0 c i) j)
       have hmm2:=D4 (D3 c3 (λc=>B0 c i) j)
       obtain⟨X,hX⟩:∃X,X=A0 (D3 c3 (λc=>B0 c i) j):=⟨_,rfl⟩
       rw[<- hX] at hg hset2 hml hmm2 ⊢
       repeat' first|refine st ?_|((with_reducible first|apply A9|apply A8);(·exact hB))|(with_reducible first|apply A5|apply A4)<;>intro _
       refine⟨j+1,rfl,rfl,?_,by omega,by omega⟩
       rw[show((j:Int)).toNat=j from K8 j,hset2]
      |none=>
       have hge:=E4.1 hy
       have hjk:j=c3.length:=by omega
       subst hjk
       rw[o4]
       have hks:=B6 c3
       rw[<- hN3]
       repeat' first|refine st ?_|(with_reducible first|apply A5|apply A4)<;>intro _
       refine Q3 A6 ?_
       repeat' first|refine st ?_|(with_reducible first|apply A5|apply A4)<;>intro _
       have hAe:A.isEmpty=false:=by cases A with
        |nil=>simp at hAl;omega
        |cons a l=>rfl
       rw[hAe]
       have hXl:=I8 xs
       refine A6m 4 (id:=9) (len:=A.length) (sz:=7) (frz:=0) (nl:=false) (es:=A) rfl rfl rfl ?_
       rw[if_neg (by decide:¬(false=true))]
       repeat' first|refine st ?_|(with_reducible first|apply A5|apply A4)<;>intro _
       refine G6 A6 A4W A4R (λ(q:Nat)=>[.d (eI q)]) (λq=>[.cells [.d (.str nm),.d (.sl es'),.arr 2 (A0 ks).length,.rs 3 4,.arr 4 (xL xs).length],.arr (es'++[L7]) 3 (es.length-1) false,.arr K' 1 0 kn,.rarr [[.arr 5 (A0 c0).length,.d (.str t0)],[.arr 6 (A0 c1).length,.d (.str t1)],[.arr 7 (A0 c2).length,.d (.str t2)],[.arr 8 (A0 c3).length,.d (.str t3)]] 2 false,.arr (xL (L2 xs (E3 M0) q)) 7 0 xn,.arr N0 1 0 b0,.arr N1 1 0 b1,.arr N2 1 0 b2,.arr N3 1 0 b3,.arr A 7 A.length false,.cells [.arr 5 (A0 c0).length,.d (.str t0)],.cells [.arr 6 (A0 c1).length,.d (.str t1)],.cells [.arr 7 (A0 c2).length,.d (.str t2)],.cells [.arr 8 (A0 c3).length,.d (.str t3)]]) (λq=>q<=xs.length) (λq=>xs.length-q) 0 rfl rfl rfl (by rw[A5S];rfl) (λ_ _=>⟨rfl,rfl⟩) rfl (by omega) ?_
       repeat' first|refine st ?_|(with_reducible first|apply A5|apply A4)<;>intro _
       intro q h7
       have hMb:∀a∈M0,a.bk<=1048576:=by
        intro a ha
        rw[hM0] at ha
        obtain⟨b,_,rfl⟩:=E6.1 ha
        unfold mvE Ex.bk
        rw[Ex.ds_mk]
        exact P9 rfl
       have hXql:=A5Q xs (E3 M0) q h7
       cases hx:xs[q]? with
       |some x=>
        obtain⟨hlt3,he3⟩:=B2.1 hx
        have hxf:xn=false:=by
         cases xn with
         |false=>rfl
         |true=>rw[hxn rfl] at hlt3;simp at hlt3
        subst hxf
        have hg:=A5P (E3 M0) hx
        have hset:=A5R (E3 M0) hx
        have hS:=A4D M0 hMl hMb (.sl A) (by rw[h5];exact O7) x (hxb x (C3 hx))
        have hq1:=I8 (L2 xs (E3 M0) q)
        have hq2:=P0 (L2 xs (E3 M0) q)
        obtain⟨z,hz⟩:∃z,z=E3 M0 x:=⟨_,rfl⟩
        rw[<- hz] at hS hset
        have hset2:(xL (L2 xs (E3 M0) q)).set q z.ds=xL (L2 xs (E3 M0) (q+1)):=by rw[<- hset];unfold xL;rw[X5]
        obtain⟨o1,n1,v1,m1,l1,a1⟩:=x
        obtain⟨o2,n2,v2,m2,l2,a2⟩:=z
        have hg:=y9 _ _ _ _ _ _ _ hg
        rw[Ex.av_mk,Ex.av_mk] at hS
        rw[Ex.ds_mk] at hset2
        obtain⟨X,hX⟩:∃X,X=xL (L2 xs (E3 M0) q):=⟨_,rfl⟩
        rw[<- hX] at hg hset2 hq1 hq2 ⊢
        repeat' first|refine st ?_|((with_reducible first|apply A9|apply A8);(·exact hS))|(with_reducible first|apply A5|apply A4)<;>intro _
        refine⟨q+1,rfl,rfl,?_,by omega,by omega⟩
        rw[show((q:Int)).toNat=q from K8 q,hset2]
       |none=>
        have hge:=E4.1 hx
        have hqk:q=xs.length:=by omega
        subst hqk
        rw[A5O]
        repeat' first|refine st ?_|(with_reducible first|apply A5|apply A4)<;>intro _
        exact⟨rfl,rfl⟩
theorem C0f(T0 T1 T2 T3 T4 T7:AO)(nm:List UInt8)(es:List (List D))(hm:∀e∈es,e.length=3)(i:Nat)(hi:i<es.length)(hel:es.length<=1048576)(ks:List Int)(hkb:∀k∈ks,0<=k/\k<=1048576)(hkl:ks.length<=1048576)(kn:Bool)(hkn:kn=true->ks=[])(xs:List Ex)(hxl:xs.length<=1048576)(hxb:∀e∈xs,e.bk<=1048576)(xn:Bool)(hxn:xn=true->xs=[])(c0:List Int)(b0:Bool)(t0:List UInt8)(hc0:c0.length<=1048576)(hcb0:∀k∈c0,0<=k/\k<=1048576)(hn0:b0=true->c0=[])(c1:List Int)(b1:Bool)(t1:List UInt8)(hc1:c1.length<=1048576)(hcb1:∀k∈c1,0<=k/\k<=1048576)(hn1:b1=true->c1=[])(c2:List Int)(b2:Bool)(t2:List UInt8)(hc2:c2.length<=1048576)(hcb2:∀k∈c2,0<=k/\k<=1048576)(hn2:b2=true->c2=[])(c3:List Int)(b3:Bool)(t3:List UInt8)(hc3:c3.length<=1048576)(hcb3:∀k∈c3,0<=k/\k<=1048576)(hn3:b3=true->c3=[]) :
  B4 Tryz.prog A0r [.ptr 14 0,.d (eI i)] [T0,T1,T2,T3,T4,.arr es 3 0 false,.arr (A0 ks) 1 0 kn,T7,.rarr [[.arr 10 (A0 c0).length,.d (.str t0)],[.arr 11 (A0 c1).length,.d (.str t1)],[.arr 12 (A0 c2).length,.d (.str t2)],[.arr 13 (A0 c3).length,.d (.str t3)]] 2 false,.arr (xL xs) 7 0 xn,.arr (A0 c0) 1 0 b0,.arr (A0 c1) 1 0 b1,.arr (A0 c2) 1 0 b2,.arr (A0 c3) 1 0 b3,.cells [.d (.str nm),.arr 5 es.length,.arr 6 (A0 ks).length,.rs 8 4,.arr 9 (xL xs).length]]
   (λr os=>r=.tup []/\os=[T0,T1,T2,T3,T4,.arr (es.eraseIdx i++[L7]) 3 (es.length-1) false,.arr (A0 (ks.map λc=>B0 c i)) 1 0 kn,T7,.rarr [[.arr 10 (A0 c0).length,.d (.str t0)],[.arr 11 (A0 c1).length,.d (.str t1)],[.arr 12 (A0 c2).length,.d (.str t2)],[.arr 13 (A0 c3).length,.d (.str t3)]] 2 false,.arr (xL (xs.map (E3 (H5 es.length i)))) 7 0 xn,.arr (A0 (c0.map λc=>B0 c i)) 1 0 b0,.arr (A0 (c1.map λc=>B0 c i)) 1 0 b1,.arr (A0 (c2.map λc=>B0 c i)) 1 0 b2,.arr (A0 (c3.map λc=>B0 c i)) 1 0 b3,.cells [.d (.str nm),.d (.sl (es.eraseIdx i)),.arr 6 (A0 ks).length,.rs 8 4,.arr 9 (xL xs).length]]):=by
 have:=B4.frame (K:=λr os=>r=.tup []/\os=[T0,T1,T2,T3,T4,.arr (es.eraseIdx i++[L7]) 3 (es.length-1) false,.arr (A0 (ks.map λc=>B0 c i)) 1 0 kn,T7,.rarr [[.arr 10 (A0 c0).length,.d (.str t0)],[.arr 11 (A0 c1).length,.d (.str t1)],[.arr 12 (A0 c2).length,.d (.str t2)],[.arr 13 (A0 c3).length,.d (.str t3)]] 2 false,.arr (xL (xs.map (E3 (H5 es.length i)))) 7 0 xn,.arr (A0 (c0.map λc=>B0 c i)) 1 0 b0,.arr (A0 (c1.map λc=>B0 c i)) 1 0 b1,.arr (A0 (c2.map λc=>B0 c i)) 1 0 b2,.arr (A0 (c3.map λc=>B0 c i)) 1 0 b3,.cells [.d (.str nm),.d (.sl (es.eraseIdx i)),.arr 6 (A0 ks).length,.rs 8 4,.arr 9 (xL xs).length]]) (C0e nm es hm i hi hel ks hkb hkl kn hkn xs hxl hxb xn hxn c0 b0 t0 hc0 hcb0 hn0 c1 b1 t1 hc1 hcb1 hn1 c2 b2 t2 hc2 hcb2 hn2 c3 b3 t3 hc3 hcb3 hn3) [14,5,6,8,9,10,11,12,13]
  [T0,T1,T2,T3,T4,.arr es 3 0 false,.arr (A0 ks) 1 0 kn,T7,.rarr [[.arr 10 (A0 c0).length,.d (.str t0)],[.arr 11 (A0 c1).length,.d (.str t1)],[.arr 12 (A0 c2).length,.d (.str t2)],[.arr 13 (A0 c3).length,.d (.str t3)]] 2 false,.arr (xL xs) 7 0 xn,.arr (A0 c0) 1 0 b0,.arr (A0 c1) 1 0 b1,.arr (A0 c2) 1 0 b2,.arr (A0 c3) 1 0 b3,.cells [.d (.str nm),.arr 5 es.length,.arr 6 (A0 ks).length,.rs 8 4,.arr 9 (xL xs).length]] rfl (by decide) (λi o h=>by
   match i,h with
   |0,h=>cases h;rfl
   |1,h=>cases h;rfl
   |2,h=>cases h;rfl
   |3,h=>cases h;rfl
   |4,h=>cases h;rfl
   |5,h=>cases h;rfl
   |6,h=>cases h;rfl
   |7,h=>cases h;rfl
   |8,h=>cases h;rfl
   |i+9,h=>simp at h) (λa ha=>by
    simp only[L4,m8,or_false] at ha
    rcases ha with rfl|rfl<;>simp[AV.bnd2,AV.bnd1]) (λo ho=>by
    simp only[L4,m8,or_false] at ho
    rcases ho with rfl|rfl|rfl|rfl|rfl|rfl|rfl|rfl|rfl
    ·exact M3 rfl
    ·exact M3 rfl
    ·exact M3 rfl
    ·exact M3 rfl
    ·exact M3 rfl
    ·exact M3 rfl
    ·exact M3 rfl
    ·exact M3 rfl
    ·exact M3 rfl
    ) (by
   rintro r bs' ⟨rfl,rfl⟩
   exact⟨rfl,rfl⟩)
 exact this
end Go.Proofs
end
section
set_option maxHeartbeats 8000000
namespace Go.Proofs
open Go.Bi
theorem B9P(t:Tb)(dc dk df dx:D)(h:O0 t dc dk df dx)(c:Ch)(hc:I1 c)(hq:D7 t c=0)(g0 g1 g2 g3:Fo)(hfs:t.fs=[g0,g1,g2,g3])(hk:c.k=1) :
  Pure Tryz.prog Q6 [eT t.nm dc dk df dx,c.av] (.tup [eT t.nm (.sl (B3 (t.cs++[c.co]))) (B9 (A7 dk) (A0 t.ks)) (dF t.fs) (B9 (xL (t.xs.map (C0 0))).isEmpty (xL (t.xs.map (C0 0)))),.d (eI 0)]):=by
 have hC:=U3 t dc dk df dx h c hc
 rw[hq] at hC
 have hF:=S6 t.nm t.cs h.hl dc dk df dx h.dc c.nm
 have hl:=h.hl
 have hdf:=h.df
 have hfc:=h.hfc
 rw[hfs] at hdf hfc
 have hdf2:df=.sl (R4 [⟨g0.d,A0 g0.cs,A7 g0.d,g0.tb⟩,⟨g1.d,A0 g1.cs,A7 g1.d,g1.tb⟩,⟨g2.d,A0 g2.cs,A7 g2.d,g2.tb⟩,⟨g3.d,A0 g3.cs,A7 g3.d,g3.tb⟩]):=by
  rcases hdf with ⟨_,h2⟩|h2
  ·cases h2
  ·exact h2
 have hf0:(Fi.mk g0.d (A0 g0.cs) (A7 g0.d) g0.tb).ok:=G7 _ (by rw[B6];have:=(hfc g0 (by simp)).1;omega) (D4 _) g0.d g0.sld
 have hf1:(Fi.mk g1.d (A0 g1.cs) (A7 g1.d) g1.tb).ok:=G7 _ (by rw[B6];have:=(hfc g1 (by simp)).1;omega) (D4 _) g1.d g1.sld
 have hf2:(Fi.mk g2.d (A0 g2.cs) (A7 g2.d) g2.tb).ok:=G7 _ (by rw[B6];have:=(hfc g2 (by simp)).1;omega) (D4 _) g2.d g2.sld
 have hf3:(Fi.mk g3.d (A0 g3.cs) (A7 g3.d) g3.tb).ok:=G7 _ (by rw[B6];have:=(hfc g3 (by simp)).1;omega) (D4 _) g3.d g3.sld
 have hK:=A4B t.nm dc dk df dx (B3 t.cs) (A0 t.ks) (A7 dc) (A7 dk) (V0 _ (by rw[G8];omega) (I3 _) dc h.dc) (G7 _ (by rw[B6];have:=h.hk;omega) (D4 _) dk h.dk) _ _ _ _ hf0 hf1 hf2 hf3 hdf2 t.xs h.hxb h.hxs h.dx
 have hcl:=G8 t.cs
 have q0:g0.d=B9 (A7 g0.d) (A0 g0.cs):=(O4 g0.sld).symm
 have q1:g1.d=B9 (A7 g1.d) (A0 g1.cs):=(O4 g1.sld).symm
 have q2:g2.d=B9 (A7 g2.d) (A0 g2.cs):=(O4 g2.sld).symm
 have q3:g3.d=B9 (A7 g3.d) (A0 g3.cs):=(O4 g3.sld).symm
 have e1:B3 (t.cs++[c.co])=B3 t.cs++[c.co.ds]:=by simp[B3]
 rw[e1]
 obtain⟨k,nm,to,⟨cn,ck,cl⟩,⟨vk,vn,vs⟩⟩:=c
 dsimp only at hk
 subst hk
 obtain⟨f,hf⟩:∃f,f=D8 nm t.cs:=⟨_,rfl⟩
 have hF:Bi.Pure Tryz.prog U5 [eT t.nm dc dk df dx,.d (.str nm)] (.d (eI f)):=by rw[hf];exact hF
 rw[show dF t.fs=B9 false (H9 [g0,g1,g2,g3]) by rw[hfs];rfl]
 generalize B3 t.cs=Cs at hK hcl q0 q1 q2 q3 ⊢
 generalize A0 t.ks=Ks at hK hcl q0 q1 q2 q3 ⊢
 generalize xL (t.xs.map (C0 0))=Xs at hK hcl q0 q1 q2 q3 ⊢
 generalize A7 dk=b2 at hK hcl q0 q1 q2 q3 ⊢
 generalize A7 dc=b1 at hK hcl q0 q1 q2 q3 ⊢
 generalize A0 g0.cs=G0 at hK hcl q0 q1 q2 q3 ⊢
 generalize A7 g0.d=n0 at hK hcl q0 q1 q2 q3 ⊢
 generalize A0 g1.cs=G1 at hK hcl q0 q1 q2 q3 ⊢
 generalize A7 g1.d=n1 at hK hcl q0 q1 q2 q3 ⊢
 generalize A0 g2.cs=G2 at hK hcl q0 q1 q2 q3 ⊢
 generalize A7 g2.d=n2 at hK hcl q0 q1 q2 q3 ⊢
 generalize A0 g3.cs=G3 at hK hcl q0 q1 q2 q3 ⊢
 generalize A7 g3.d=n3 at hK hcl q0 q1 q2 q3 ⊢
 obtain⟨u0,hu0⟩:∃x,x=g0.tb:=⟨_,rfl⟩
 rw[<- hu0] at hK
 obtain⟨u1,hu1⟩:∃x,x=g1.tb:=⟨_,rfl⟩
 rw[<- hu1] at hK
 obtain⟨u2,hu2⟩:∃x,x=g2.tb:=⟨_,rfl⟩
 rw[<- hu2] at hK
 obtain⟨u3,hu3⟩:∃x,x=g3.tb:=⟨_,rfl⟩
 rw[<- hu3] at hK
 refine B4.deepP (Q:=λr os=>r=.tup [.agg [.d (.str t.nm),.arr 5 (Cs++[[.str cn,eI ck,.bool cl]]).length,.arr 6 Ks.length,.rs 8 4,.arr 9 Xs.length],.d (eI 0)]/\os[5]?=some (.arr (Cs++[[.str cn,eI ck,.bool cl]]) 3 0 false)/\os[6]?=some (.arr Ks 1 0 b2)/\os[8]?=some (.rarr [[.arr 10 G0.length,.d (.str u0)],[.arr 11 G1.length,.d (.str u1)],[.arr 12 G2.length,.d (.str u2)],[.arr 13 G3.length,.d (.str u3)]] 2 false)/\os[9]?=some (.arr Xs 7 0 Xs.isEmpty)/\os[10]?=some (.arr G0 1 0 n0)/\os[11]?=some (.arr G1 1 0 n1)/\os[12]?=some (.arr G2 1 0 n2)/\os[13]?=some (.arr G3 1 0 n3)) ?_ ?_
 ·refine V1.goO2 A6 rfl ?_
  repeat' first|refine st ?_|((with_reducible first|apply A9|apply A8);(·first|exact hC|exact hF))|((with_reducible first|apply I6|apply D5);(·exact hK);(try rintro _ _ ⟨rfl,rfl⟩))|((with_reducible apply I7);(·exact hK))|((with_reducible apply H6);refine st ?_;(with_reducible apply I5);(·exact rfl);refine st ?_;(with_reducible apply D5);(·exact hK);(try rintro _ _ ⟨rfl,rfl⟩))|(with_reducible first|apply A5|apply A4)<;>intro _
  exact⟨rfl,rfl,rfl,rfl,rfl,rfl,rfl,rfl,rfl⟩
 ·rintro r os ⟨rfl,hx0,hx1,hx2,hx3,hx4,hx5,hx6,hx7⟩
  refine V5 (rows:=[[.arr 10 G0.length,.d (.str u0)],[.arr 11 G1.length,.d (.str u1)],[.arr 12 G2.length,.d (.str u2)],[.arr 13 G3.length,.d (.str u3)]]) (fs:=[g0,g1,g2,g3]) (.inl (.inr ⟨5,_,3,0,false,rfl,hx0,rfl⟩)) hx1 hx2 hx3 rfl (λi e g he hg=>?_)
  match i,he,hg with
  |0,he,hg=>cases he;cases hg;exact⟨10,_,n0,by rw[hu0],hx4,q0⟩
  |1,he,hg=>cases he;cases hg;exact⟨11,_,n1,by rw[hu1],hx5,q1⟩
  |2,he,hg=>cases he;cases hg;exact⟨12,_,n2,by rw[hu2],hx6,q2⟩
  |3,he,hg=>cases he;cases hg;exact⟨13,_,n3,by rw[hu3],hx7,q3⟩
  |i+4,he,hg=>simp at he
theorem B9R(t:Tb)(dc dk df dx:D)(h:O0 t dc dk df dx)(c:Ch)(hc:I1 c)(hq:D7 t c=0)(g0 g1 g2 g3:Fo)(hfs:t.fs=[g0,g1,g2,g3])(hk:c.k=3)(i:Nat)(hi:D8 c.nm t.cs=i)(co:Co)(hco:t.cs[i]?=some co)(hdc:dc=.sl (B3 t.cs)) :
  Pure Tryz.prog Q6 [eT t.nm dc dk df dx,c.av] (.tup [eT t.nm (.sl (B3 (t.cs.set i ⟨c.to,co.k,co.nl⟩))) (B9 (A7 dk) (A0 t.ks)) (dF t.fs) (B9 (xL (t.xs.map (C0 0))).isEmpty (xL (t.xs.map (C0 0)))),.d (eI 0)]):=by
 have hC:=U3 t dc dk df dx h c hc
 rw[hq] at hC
 have hF:=S6 t.nm t.cs h.hl dc dk df dx h.dc c.nm
 have hl:=h.hl
 have hdf:=h.df
 have hfc:=h.hfc
 rw[hfs] at hdf hfc
 rw[hi] at hF
 have hdf2:df=.sl (R4 [⟨g0.d,A0 g0.cs,A7 g0.d,g0.tb⟩,⟨g1.d,A0 g1.cs,A7 g1.d,g1.tb⟩,⟨g2.d,A0 g2.cs,A7 g2.d,g2.tb⟩,⟨g3.d,A0 g3.cs,A7 g3.d,g3.tb⟩]):=by
  rcases hdf with ⟨_,h2⟩|h2
  ·cases h2
  ·exact h2
 have hf0:(Fi.mk g0.d (A0 g0.cs) (A7 g0.d) g0.tb).ok:=G7 _ (by rw[B6];have:=(hfc g0 (by simp)).1;omega) (D4 _) g0.d g0.sld
 have hf1:(Fi.mk g1.d (A0 g1.cs) (A7 g1.d) g1.tb).ok:=G7 _ (by rw[B6];have:=(hfc g1 (by simp)).1;omega) (D4 _) g1.d g1.sld
 have hf2:(Fi.mk g2.d (A0 g2.cs) (A7 g2.d) g2.tb).ok:=G7 _ (by rw[B6];have:=(hfc g2 (by simp)).1;omega) (D4 _) g2.d g2.sld
 have hf3:(Fi.mk g3.d (A0 g3.cs) (A7 g3.d) g3.tb).ok:=G7 _ (by rw[B6];have:=(hfc g3 (by simp)).1;omega) (D4 _) g3.d g3.sld
 have hK:=A4B t.nm dc dk df dx (B3 t.cs) (A0 t.ks) (A7 dc) (A7 dk) (V0 _ (by rw[G8];omega) (I3 _) dc h.dc) (G7 _ (by rw[B6];have:=h.hk;omega) (D4 _) dk h.dk) _ _ _ _ hf0 hf1 hf2 hf3 hdf2 t.xs h.hxb h.hxs h.dx
 have hcl:=G8 t.cs
 rw[show A7 dc=false by rw[hdc];rfl] at hK
 have q0:g0.d=B9 (A7 g0.d) (A0 g0.cs):=(O4 g0.sld).symm
 have q1:g1.d=B9 (A7 g1.d) (A0 g1.cs):=(O4 g1.sld).symm
 have q2:g2.d=B9 (A7 g2.d) (A0 g2.cs):=(O4 g2.sld).symm
 have q3:g3.d=B9 (A7 g3.d) (A0 g3.cs):=(O4 g3.sld).symm
 have hg:(B3 t.cs)[((i:Nat):Int).toNat]?=some [.str co.nm,eI co.k,.bool co.nl]:=M8 hco
 have hg2:(B3 t.cs)[i]?=some [.str co.nm,eI co.k,.bool co.nl]:=M8 hco
 have hmm:=I3 t.cs
 have hilt:i<(B3 t.cs).length:=by rw[hcl];exact(B2.1 hco).1
 have e1:B3 (t.cs.set i ⟨c.to,co.k,co.nl⟩)=(B3 t.cs).set i [.str c.to,eI co.k,.bool co.nl]:=by unfold B3;rw[X5]
 rw[e1]
 obtain⟨k,nm,to,⟨cn,ck,cl⟩,⟨vk,vn,vs⟩⟩:=c
 dsimp only at hk
 subst hk
 have hF:Bi.Pure Tryz.prog U5 [eT t.nm dc dk df dx,.d (.str nm)] (.d (eI i)):=hF
 rw[show dF t.fs=B9 false (H9 [g0,g1,g2,g3]) by rw[hfs];rfl]
 generalize B3 t.cs=Cs at hK hcl hg hg2 hmm hilt q0 q1 q2 q3 ⊢
 generalize A0 t.ks=Ks at hK hcl hg hg2 hmm hilt q0 q1 q2 q3 ⊢
 generalize xL (t.xs.map (C0 0))=Xs at hK hcl hg hg2 hmm hilt q0 q1 q2 q3 ⊢
 generalize A7 dk=b2 at hK hcl hg hg2 hmm hilt q0 q1 q2 q3 ⊢
 generalize A0 g0.cs=G0 at hK hcl hg hg2 hmm hilt q0 q1 q2 q3 ⊢
 generalize A7 g0.d=n0 at hK hcl hg hg2 hmm hilt q0 q1 q2 q3 ⊢
 generalize A0 g1.cs=G1 at hK hcl hg hg2 hmm hilt q0 q1 q2 q3 ⊢
 generalize A7 g1.d=n1 at hK hcl hg hg2 hmm hilt q0 q1 q2 q3 ⊢
 generalize A0 g2.cs=G2 at hK hcl hg hg2 hmm hilt q0 q1 q2 q3 ⊢
 generalize A7 g2.d=n2 at hK hcl hg hg2 hmm hilt q0 q1 q2 q3 ⊢
 generalize A0 g3.cs=G3 at hK hcl hg hg2 hmm hilt q0 q1 q2 q3 ⊢
 generalize A7 g3.d=n3 at hK hcl hg hg2 hmm hilt q0 q1 q2 q3 ⊢
 obtain⟨u0,hu0⟩:∃x,x=g0.tb:=⟨_,rfl⟩
 rw[<- hu0] at hK
 obtain⟨u1,hu1⟩:∃x,x=g1.tb:=⟨_,rfl⟩
 rw[<- hu1] at hK
 obtain⟨u2,hu2⟩:∃x,x=g2.tb:=⟨_,rfl⟩
 rw[<- hu2] at hK
 obtain⟨u3,hu3⟩:∃x,x=g3.tb:=⟨_,rfl⟩
 rw[<- hu3] at hK
 refine B4.deepP (Q:=λr os=>r=.tup [.agg [.d (.str t.nm),.arr 5 (Cs.set i [.str to,eI co.k,.bool co.nl]).length,.arr 6 Ks.length,.rs 8 4,.arr 9 Xs.length],.d (eI 0)]/\os[5]?=some (.arr (Cs.set i [.str to,eI co.k,.bool co.nl]) 3 0 false)/\os[6]?=some (.arr Ks 1 0 b2)/\os[8]?=some (.rarr [[.arr 10 G0.length,.d (.str u0)],[.arr 11 G1.length,.d (.str u1)],[.arr 12 G2.length,.d (.str u2)],[.arr 13 G3.length,.d (.str u3)]] 2 false)/\os[9]?=some (.arr Xs 7 0 Xs.isEmpty)/\os[10]?=some (.arr G0 1 0 n0)/\os[11]?=some (.arr G1 1 0 n1)/\os[12]?=some (.arr G2 1 0 n2)/\os[13]?=some (.arr G3 1 0 n3)) ?_ ?_
 ·refine V1.goO2 A6 rfl ?_
  rw[V3]
  repeat' first|refine st ?_|((with_reducible first|apply A9|apply A8);(·first|exact hC|exact hF))|((with_reducible first|apply I6|apply D5);(·exact hK);(try rintro _ _ ⟨rfl,rfl⟩))|((with_reducible apply I7);(·exact hK))|((with_reducible apply H6);refine st ?_;(with_reducible apply I5);(·exact rfl);refine st ?_;(with_reducible apply D5);(·exact hK);(try rintro _ _ ⟨rfl,rfl⟩))|(with_reducible first|apply A5|apply A4)<;>intro _
  exact⟨rfl,rfl,rfl,rfl,rfl,rfl,rfl,rfl,rfl⟩
 ·rintro r os ⟨rfl,hx0,hx1,hx2,hx3,hx4,hx5,hx6,hx7⟩
  refine V5 (rows:=[[.arr 10 G0.length,.d (.str u0)],[.arr 11 G1.length,.d (.str u1)],[.arr 12 G2.length,.d (.str u2)],[.arr 13 G3.length,.d (.str u3)]]) (fs:=[g0,g1,g2,g3]) (.inl (.inr ⟨5,_,3,0,false,rfl,hx0,rfl⟩)) hx1 hx2 hx3 rfl (λi e g he hg=>?_)
  match i,he,hg with
  |0,he,hg=>cases he;cases hg;exact⟨10,_,n0,by rw[hu0],hx4,q0⟩
  |1,he,hg=>cases he;cases hg;exact⟨11,_,n1,by rw[hu1],hx5,q1⟩
  |2,he,hg=>cases he;cases hg;exact⟨12,_,n2,by rw[hu2],hx6,q2⟩
  |3,he,hg=>cases he;cases hg;exact⟨13,_,n3,by rw[hu3],hx7,q3⟩
  |i+4,he,hg=>simp at he
theorem B9S(t:Tb)(dc dk df dx:D)(h:O0 t dc dk df dx)(c:Ch)(hc:I1 c)(hq:D7 t c=0)(g0 g1 g2 g3:Fo)(hfs:t.fs=[g0,g1,g2,g3])(hk:c.k=4)(i:Nat)(hi:D8 c.nm t.cs=i)(co:Co)(hco:t.cs[i]?=some co)(hdc:dc=.sl (B3 t.cs)) :
  Pure Tryz.prog Q6 [eT t.nm dc dk df dx,c.av] (.tup [eT t.nm (.sl (B3 (t.cs.set i ⟨co.nm,2,co.nl⟩))) (B9 (A7 dk) (A0 t.ks)) (dF t.fs) (B9 (xL (t.xs.map (C0 0))).isEmpty (xL (t.xs.map (C0 0)))),.d (eI 0)]):=by
 have hC:=U3 t dc dk df dx h c hc
 rw[hq] at hC
 have hF:=S6 t.nm t.cs h.hl dc dk df dx h.dc c.nm
 have hl:=h.hl
 have hdf:=h.df
 have hfc:=h.hfc
 rw[hfs] at hdf hfc
 rw[hi] at hF
 have hdf2:df=.sl (R4 [⟨g0.d,A0 g0.cs,A7 g0.d,g0.tb⟩,⟨g1.d,A0 g1.cs,A7 g1.d,g1.tb⟩,⟨g2.d,A0 g2.cs,A7 g2.d,g2.tb⟩,⟨g3.d,A0 g3.cs,A7 g3.d,g3.tb⟩]):=by
  rcases hdf with ⟨_,h2⟩|h2
  ·cases h2
  ·exact h2
 have hf0:(Fi.mk g0.d (A0 g0.cs) (A7 g0.d) g0.tb).ok:=G7 _ (by rw[B6];have:=(hfc g0 (by simp)).1;omega) (D4 _) g0.d g0.sld
 have hf1:(Fi.mk g1.d (A0 g1.cs) (A7 g1.d) g1.tb).ok:=G7 _ (by rw[B6];have:=(hfc g1 (by simp)).1;omega) (D4 _) g1.d g1.sld
 have hf2:(Fi.mk g2.d (A0 g2.cs) (A7 g2.d) g2.tb).ok:=G7 _ (by rw[B6];have:=(hfc g2 (by simp)).1;omega) (D4 _) g2.d g2.sld
 have hf3:(Fi.mk g3.d (A0 g3.cs) (A7 g3.d) g3.tb).ok:=G7 _ (by rw[B6];have:=(hfc g3 (by simp)).1;omega) (D4 _) g3.d g3.sld
 have hK:=A4B t.nm dc dk df dx (B3 t.cs) (A0 t.ks) (A7 dc) (A7 dk) (V0 _ (by rw[G8];omega) (I3 _) dc h.dc) (G7 _ (by rw[B6];have:=h.hk;omega) (D4 _) dk h.dk) _ _ _ _ hf0 hf1 hf2 hf3 hdf2 t.xs h.hxb h.hxs h.dx
 have hcl:=G8 t.cs
 rw[show A7 dc=false by rw[hdc];rfl] at hK
 have q0:g0.d=B9 (A7 g0.d) (A0 g0.cs):=(O4 g0.sld).symm
 have q1:g1.d=B9 (A7 g1.d) (A0 g1.cs):=(O4 g1.sld).symm
 have q2:g2.d=B9 (A7 g2.d) (A0 g2.cs):=(O4 g2.sld).symm
 have q3:g3.d=B9 (A7 g3.d) (A0 g3.cs):=(O4 g3.sld).symm
 have hg:(B3 t.cs)[((i:Nat):Int).toNat]?=some [.str co.nm,eI co.k,.bool co.nl]:=M8 hco
 have hg2:(B3 t.cs)[i]?=some [.str co.nm,eI co.k,.bool co.nl]:=M8 hco
 have hmm:=I3 t.cs
 have hilt:i<(B3 t.cs).length:=by rw[hcl];exact(B2.1 hco).1
 have e1:B3 (t.cs.set i ⟨co.nm,2,co.nl⟩)=(B3 t.cs).set i [.str co.nm,eI 2,.bool co.nl]:=by unfold B3;rw[X5]
 rw[e1]
 obtain⟨k,nm,to,⟨cn,ck,cl⟩,⟨vk,vn,vs⟩⟩:=c
 dsimp only at hk
 subst hk
 have hF:Bi.Pure Tryz.prog U5 [eT t.nm dc dk df dx,.d (.str nm)] (.d (eI i)):=hF
 rw[show dF t.fs=B9 false (H9 [g0,g1,g2,g3]) by rw[hfs];rfl]
 generalize B3 t.cs=Cs at hK hcl hg hg2 hmm hilt q0 q1 q2 q3 ⊢
 generalize A0 t.ks=Ks at hK hcl hg hg2 hmm hilt q0 q1 q2 q3 ⊢
 generalize xL (t.xs.map (C0 0))=Xs at hK hcl hg hg2 hmm hilt q0 q1 q2 q3 ⊢
 generalize A7 dk=b2 at hK hcl hg hg2 hmm hilt q0 q1 q2 q3 ⊢
 generalize A0 g0.cs=G0 at hK hcl hg hg2 hmm hilt q0 q1 q2 q3 ⊢
 generalize A7 g0.d=n0 at hK hcl hg hg2 hmm hilt q0 q1 q2 q3 ⊢
 generalize A0 g1.cs=G1 at hK hcl hg hg2 hmm hilt q0 q1 q2 q3 ⊢
 generalize A7 g1.d=n1 at hK hcl hg hg2 hmm hilt q0 q1 q2 q3 ⊢
 generalize A0 g2.cs=G2 at hK hcl hg hg2 hmm hilt q0 q1 q2 q3 ⊢
 generalize A7 g2.d=n2 at hK hcl hg hg2 hmm hilt q0 q1 q2 q3 ⊢
 generalize A0 g3.cs=G3 at hK hcl hg hg2 hmm hilt q0 q1 q2 q3 ⊢
 generalize A7 g3.d=n3 at hK hcl hg hg2 hmm hilt q0 q1 q2 q3 ⊢
 obtain⟨u0,hu0⟩:∃x,x=g0.tb:=⟨_,rfl⟩
 rw[<- hu0] at hK
 obtain⟨u1,hu1⟩:∃x,x=g1.tb:=⟨_,rfl⟩
 rw[<- hu1] at hK
 obtain⟨u2,hu2⟩:∃x,x=g2.tb:=⟨_,rfl⟩
 rw[<- hu2] at hK
 obtain⟨u3,hu3⟩:∃x,x=g3.tb:=⟨_,rfl⟩
 rw[<- hu3] at hK
 refine B4.deepP (Q:=λr os=>r=.tup [.agg [.d (.str t.nm),.arr 5 (Cs.set i [.str co.nm,eI 2,.bool co.nl]).length,.arr 6 Ks.length,.rs 8 4,.arr 9 Xs.length],.d (eI 0)]/\os[5]?=some (.arr (Cs.set i [.str co.nm,eI 2,.bool co.nl]) 3 0 false)/\os[6]?=some (.arr Ks 1 0 b2)/\os[8]?=some (.rarr [[.arr 10 G0.length,.d (.str u0)],[.arr 11 G1.length,.d (.str u1)],[.arr 12 G2.length,.d (.str u2)],[.arr 13 G3.length,.d (.str u3)]] 2 false)/\os[9]?=some (.arr Xs 7 0 Xs.isEmpty)/\os[10]?=some (.arr G0 1 0 n0)/\os[11]?=some (.arr G1 1 0 n1)/\os[12]?=some (.arr G2 1 0 n2)/\os[13]?=some (.arr G3 1 0 n3)) ?_ ?_
 ·refine V1.goO2 A6 rfl ?_
  rw[V3]
  repeat' first|refine st ?_|((with_reducible first|apply A9|apply A8);(·first|exact hC|exact hF))|((with_reducible first|apply I6|apply D5);(·exact hK);(try rintro _ _ ⟨rfl,rfl⟩))|((with_reducible apply I7);(·exact hK))|((with_reducible apply H6);refine st ?_;(with_reducible apply I5);(·exact rfl);refine st ?_;(with_reducible apply D5);(·exact hK);(try rintro _ _ ⟨rfl,rfl⟩))|(with_reducible first|apply A5|apply A4)<;>intro _
  exact⟨rfl,rfl,rfl,rfl,rfl,rfl,rfl,rfl,rfl⟩
 ·rintro r os ⟨rfl,hx0,hx1,hx2,hx3,hx4,hx5,hx6,hx7⟩
  refine V5 (rows:=[[.arr 10 G0.length,.d (.str u0)],[.arr 11 G1.length,.d (.str u1)],[.arr 12 G2.length,.d (.str u2)],[.arr 13 G3.length,.d (.str u3)]]) (fs:=[g0,g1,g2,g3]) (.inl (.inr ⟨5,_,3,0,false,rfl,hx0,rfl⟩)) hx1 hx2 hx3 rfl (λi e g he hg=>?_)
  match i,he,hg with
  |0,he,hg=>cases he;cases hg;exact⟨10,_,n0,by rw[hu0],hx4,q0⟩
  |1,he,hg=>cases he;cases hg;exact⟨11,_,n1,by rw[hu1],hx5,q1⟩
  |2,he,hg=>cases he;cases hg;exact⟨12,_,n2,by rw[hu2],hx6,q2⟩
  |3,he,hg=>cases he;cases hg;exact⟨13,_,n3,by rw[hu3],hx7,q3⟩
  |i+4,he,hg=>simp at he
theorem B9Q(t:Tb)(dc dk df dx:D)(h:O0 t dc dk df dx)(c:Ch)(hc:I1 c)(hq:D7 t c=0)(g0 g1 g2 g3:Fo)(hfs:t.fs=[g0,g1,g2,g3])(hk:c.k=2)(i:Nat)(hi:D8 c.nm t.cs=i)(hil:i<t.cs.length)(hdc:dc=.sl (B3 t.cs))(hkb:∀k∈t.ks,0<=k/\k<=1048576)(hfb:∀g∈t.fs,∀k∈g.cs,0<=k/\k<=1048576)(hxb:∀e∈t.xs.map (C0 0),e.bk<=1048576) :
  Pure Tryz.prog Q6 [eT t.nm dc dk df dx,c.av] (.tup [eT t.nm (.sl (B3 (t.cs.eraseIdx i))) (B9 (A7 dk) (A0 (t.ks.map λc=>B0 c i))) (dF (t.fs.map (I0 i))) (B9 (xL (t.xs.map (C0 0))).isEmpty (xL ((t.xs.map (C0 0)).map (E3 (H5 t.cs.length i))))),.d (eI 0)]):=by
 have hC:=U3 t dc dk df dx h c hc
 rw[hq] at hC
 have hF:=S6 t.nm t.cs h.hl dc dk df dx h.dc c.nm
 have hl:=h.hl
 have hdf:=h.df
 have hfc:=h.hfc
 rw[hfs] at hdf hfc
 rw[hi] at hF
 have hdf2:df=.sl (R4 [⟨g0.d,A0 g0.cs,A7 g0.d,g0.tb⟩,⟨g1.d,A0 g1.cs,A7 g1.d,g1.tb⟩,⟨g2.d,A0 g2.cs,A7 g2.d,g2.tb⟩,⟨g3.d,A0 g3.cs,A7 g3.d,g3.tb⟩]):=by
  rcases hdf with ⟨_,h2⟩|h2
  ·cases h2
  ·exact h2
 have hf0:(Fi.mk g0.d (A0 g0.cs) (A7 g0.d) g0.tb).ok:=G7 _ (by rw[B6];have:=(hfc g0 (by simp)).1;omega) (D4 _) g0.d g0.sld
 have hf1:(Fi.mk g1.d (A0 g1.cs) (A7 g1.d) g1.tb).ok:=G7 _ (by rw[B6];have:=(hfc g1 (by simp)).1;omega) (D4 _) g1.d g1.sld
 have hf2:(Fi.mk g2.d (A0 g2.cs) (A7 g2.d) g2.tb).ok:=G7 _ (by rw[B6];have:=(hfc g2 (by simp)).1;omega) (D4 _) g2.d g2.sld
 have hf3:(Fi.mk g3.d (A0 g3.cs) (A7 g3.d) g3.tb).ok:=G7 _ (by rw[B6];have:=(hfc g3 (by simp)).1;omega) (D4 _) g3.d g3.sld
 have hK:=A4B t.nm dc dk df dx (B3 t.cs) (A0 t.ks) (A7 dc) (A7 dk) (V0 _ (by rw[G8];omega) (I3 _) dc h.dc) (G7 _ (by rw[B6];have:=h.hk;omega) (D4 _) dk h.dk) _ _ _ _ hf0 hf1 hf2 hf3 hdf2 t.xs h.hxb h.hxs h.dx
 have hcl:=G8 t.cs
 rw[show A7 dc=false by rw[hdc];rfl] at hK
 have hkN:A7 dk=true->t.ks=[]:=λhh=>by
  have:=l4 h.dk hh
  cases hks:t.ks with
  |nil=>rfl
  |cons a l=>rw[hks] at this;cases this
 have hxN:(xL (t.xs.map (C0 0))).isEmpty=true->t.xs.map (C0 0)=[]:=by
  intro hh
  cases hx:t.xs.map (C0 0) with
  |nil=>rfl
  |cons a l=>rw[hx] at hh;cases hh
 have hN0:A7 g0.d=true->g0.cs=[]:=λhh=>by
  have:=l4 g0.sld hh
  cases hks:g0.cs with
  |nil=>rfl
  |cons a l=>rw[hks] at this;cases this
 have hB0:=hfb g0 (by rw[hfs];simp)
 have hN1:A7 g1.d=true->g1.cs=[]:=λhh=>by
  have:=l4 g1.sld hh
  cases hks:g1.cs with
  |nil=>rfl
  |cons a l=>rw[hks] at this;cases this
 have hB1:=hfb g1 (by rw[hfs];simp)
 have hN2:A7 g2.d=true->g2.cs=[]:=λhh=>by
  have:=l4 g2.sld hh
  cases hks:g2.cs with
  |nil=>rfl
  |cons a l=>rw[hks] at this;cases this
 have hB2:=hfb g2 (by rw[hfs];simp)
 have hN3:A7 g3.d=true->g3.cs=[]:=λhh=>by
  have:=l4 g3.sld hh
  cases hks:g3.cs with
  |nil=>rfl
  |cons a l=>rw[hks] at this;cases this
 have hB3:=hfb g3 (by rw[hfs];simp)
 have hD:=λT0 T1 T2 T3 T4 T7=>C0f T0 T1 T2 T3 T4 T7 t.nm (B3 t.cs) (I3 _) i (by rw[hcl];exact hil) (by rw[hcl];exact hl) t.ks hkb h.hk (A7 dk) hkN (t.xs.map (C0 0)) (by rw[C7];exact h.hxs) hxb _ hxN g0.cs (A7 g0.d) g0.tb (hfc g0 (by simp)).1 hB0 hN0 g1.cs (A7 g1.d) g1.tb (hfc g1 (by simp)).1 hB1 hN1 g2.cs (A7 g2.d) g2.tb (hfc g2 (by simp)).1 hB2 hN2 g3.cs (A7 g3.d) g3.tb (hfc g3 (by simp)).1 hB3 hN3
 rw[hcl] at hD
 have hkl2:(A0 (t.ks.map λc=>B0 c i)).length=(A0 t.ks).length:=by rw[B6,B6,C7]
 have hxl2:(xL ((t.xs.map (C0 0)).map (E3 (H5 t.cs.length i)))).length=(xL (t.xs.map (C0 0))).length:=by rw[I8,I8,C7]
 have hkl20:(A0 (g0.cs.map λc=>B0 c i)).length=(A0 g0.cs).length:=by rw[B6,B6,C7]
 have hkl21:(A0 (g1.cs.map λc=>B0 c i)).length=(A0 g1.cs).length:=by rw[B6,B6,C7]
 have hkl22:(A0 (g2.cs.map λc=>B0 c i)).length=(A0 g2.cs).length:=by rw[B6,B6,C7]
 have hkl23:(A0 (g3.cs.map λc=>B0 c i)).length=(A0 g3.cs).length:=by rw[B6,B6,C7]
 have q0:(I0 i g0).d=B9 (A7 g0.d) (A0 (g0.cs.map λc=>B0 c i)):=A17 i g0
 have q1:(I0 i g1).d=B9 (A7 g1.d) (A0 (g1.cs.map λc=>B0 c i)):=A17 i g1
 have q2:(I0 i g2).d=B9 (A7 g2.d) (A0 (g2.cs.map λc=>B0 c i)):=A17 i g2
 have q3:(I0 i g3).d=B9 (A7 g3.d) (A0 (g3.cs.map λc=>B0 c i)):=A17 i g3
 have e1:B3 (t.cs.eraseIdx i)=(B3 t.cs).eraseIdx i:=A5s _ _
 rw[e1]
 obtain⟨k,nm,to,⟨cn,ck,cl⟩,⟨vk,vn,vs⟩⟩:=c
 dsimp only at hk
 subst hk
 have hF:Bi.Pure Tryz.prog U5 [eT t.nm dc dk df dx,.d (.str nm)] (.d (eI i)):=hF
 rw[show dF (t.fs.map (I0 i))=B9 false (H9 [I0 i g0,I0 i g1,I0 i g2,I0 i g3]) by rw[hfs];rfl]
 rw[hcl] at hK
 generalize A0 (t.ks.map λc=>B0 c i)=K2 at hK hcl hkl2 hxl2 hkl20 hkl21 hkl22 hkl23 q0 q1 q2 q3 hD ⊢
 generalize xL ((t.xs.map (C0 0)).map (E3 (H5 t.cs.length i)))=X2 at hK hcl hkl2 hxl2 hkl20 hkl21 hkl22 hkl23 q0 q1 q2 q3 hD ⊢
 generalize (B3 t.cs).eraseIdx i=E2 at hK hcl hkl2 hxl2 hkl20 hkl21 hkl22 hkl23 q0 q1 q2 q3 hD ⊢
 generalize A0 (g0.cs.map λc=>B0 c i)=H0 at hK hcl hkl2 hxl2 hkl20 hkl21 hkl22 hkl23 q0 q1 q2 q3 hD ⊢
 generalize A0 (g1.cs.map λc=>B0 c i)=H1 at hK hcl hkl2 hxl2 hkl20 hkl21 hkl22 hkl23 q0 q1 q2 q3 hD ⊢
 generalize A0 (g2.cs.map λc=>B0 c i)=H2 at hK hcl hkl2 hxl2 hkl20 hkl21 hkl22 hkl23 q0 q1 q2 q3 hD ⊢
 generalize A0 (g3.cs.map λc=>B0 c i)=H3 at hK hcl hkl2 hxl2 hkl20 hkl21 hkl22 hkl23 q0 q1 q2 q3 hD ⊢
 generalize B3 t.cs=Cs at hK hcl hkl2 hxl2 hkl20 hkl21 hkl22 hkl23 q0 q1 q2 q3 hD ⊢
 generalize A0 t.ks=Ks at hK hcl hkl2 hxl2 hkl20 hkl21 hkl22 hkl23 q0 q1 q2 q3 hD ⊢
 generalize xL (t.xs.map (C0 0))=Xs at hK hcl hkl2 hxl2 hkl20 hkl21 hkl22 hkl23 q0 q1 q2 q3 hD ⊢
 generalize A7 dk=b2 at hK hcl hkl2 hxl2 hkl20 hkl21 hkl22 hkl23 q0 q1 q2 q3 hD ⊢
 generalize A0 g0.cs=G0 at hK hcl hkl2 hxl2 hkl20 hkl21 hkl22 hkl23 q0 q1 q2 q3 hD ⊢
 generalize A7 g0.d=n0 at hK hcl hkl2 hxl2 hkl20 hkl21 hkl22 hkl23 q0 q1 q2 q3 hD ⊢
 generalize A0 g1.cs=G1 at hK hcl hkl2 hxl2 hkl20 hkl21 hkl22 hkl23 q0 q1 q2 q3 hD ⊢
 generalize A7 g1.d=n1 at hK hcl hkl2 hxl2 hkl20 hkl21 hkl22 hkl23 q0 q1 q2 q3 hD ⊢
 generalize A0 g2.cs=G2 at hK hcl hkl2 hxl2 hkl20 hkl21 hkl22 hkl23 q0 q1 q2 q3 hD ⊢
 generalize A7 g2.d=n2 at hK hcl hkl2 hxl2 hkl20 hkl21 hkl22 hkl23 q0 q1 q2 q3 hD ⊢
 generalize A0 g3.cs=G3 at hK hcl hkl2 hxl2 hkl20 hkl21 hkl22 hkl23 q0 q1 q2 q3 hD ⊢
 generalize A7 g3.d=n3 at hK hcl hkl2 hxl2 hkl20 hkl21 hkl22 hkl23 q0 q1 q2 q3 hD ⊢
 obtain⟨u0,hu0⟩:∃x,x=g0.tb:=⟨_,rfl⟩
 rw[<- hu0] at hK
 simp only[<- hu0] at hD
 obtain⟨u1,hu1⟩:∃x,x=g1.tb:=⟨_,rfl⟩
 rw[<- hu1] at hK
 simp only[<- hu1] at hD
 obtain⟨u2,hu2⟩:∃x,x=g2.tb:=⟨_,rfl⟩
 rw[<- hu2] at hK
 simp only[<- hu2] at hD
 obtain⟨u3,hu3⟩:∃x,x=g3.tb:=⟨_,rfl⟩
 rw[<- hu3] at hK
 simp only[<- hu3] at hD
 refine B4.deepP (Q:=λr os=>r=.tup [.agg [.d (.str t.nm),.d (.sl E2),.arr 6 K2.length,.rs 8 4,.arr 9 X2.length],.d (eI 0)]/\os[6]?=some (.arr K2 1 0 b2)/\os[8]?=some (.rarr [[.arr 10 H0.length,.d (.str u0)],[.arr 11 H1.length,.d (.str u1)],[.arr 12 H2.length,.d (.str u2)],[.arr 13 H3.length,.d (.str u3)]] 2 false)/\os[9]?=some (.arr X2 7 0 Xs.isEmpty)/\os[10]?=some (.arr H0 1 0 n0)/\os[11]?=some (.arr H1 1 0 n1)/\os[12]?=some (.arr H2 1 0 n2)/\os[13]?=some (.arr H3 1 0 n3)) ?_ ?_
 ·rw[hkl2,hxl2]
  rw[hkl20,hkl21,hkl22,hkl23]
  refine V1.goO2 A6 rfl ?_
  repeat' first|refine st ?_|((with_reducible first|apply A9|apply A8);(·first|exact hC|exact hF))|((with_reducible first|apply I6|apply D5);(·first|exact hK|exact hD _ _ _ _ _ _);(try rintro _ _ ⟨rfl,rfl⟩))|((with_reducible apply I7);(·first|exact hK|exact hD _ _ _ _ _ _))|((with_reducible apply H6);refine st ?_;(with_reducible apply I5);(·exact rfl);refine st ?_;(with_reducible apply D5);(·first|exact hK|exact hD _ _ _ _ _ _);(try rintro _ _ ⟨rfl,rfl⟩))|(with_reducible first|apply A5|apply A4)<;>intro _
  exact⟨rfl,rfl,rfl,rfl,rfl,rfl,rfl,rfl⟩
 ·rintro r os ⟨rfl,hx0,hx1,hx2,hx3,hx4,hx5,hx6⟩
  refine V5 (rows:=[[.arr 10 H0.length,.d (.str u0)],[.arr 11 H1.length,.d (.str u1)],[.arr 12 H2.length,.d (.str u2)],[.arr 13 H3.length,.d (.str u3)]]) (fs:=[I0 i g0,I0 i g1,I0 i g2,I0 i g3]) (.inl (.inl rfl)) hx0 hx1 hx2 rfl (λi e g he hg=>?_)
  match i,he,hg with
  |0,he,hg=>cases he;cases hg;exact⟨10,_,n0,by rw[hu0];rfl,hx3,q0⟩
  |1,he,hg=>cases he;cases hg;exact⟨11,_,n1,by rw[hu1];rfl,hx4,q1⟩
  |2,he,hg=>cases he;cases hg;exact⟨12,_,n2,by rw[hu2];rfl,hx5,q2⟩
  |3,he,hg=>cases he;cases hg;exact⟨13,_,n3,by rw[hu3];rfl,hx6,q3⟩
  |i+4,he,hg=>simp at he
end Go.Proofs
end
section
namespace Go.Proofs
open Go.Bi
theorem A7n{t:Tb}{i:Nat}{co:Co}(h:t.cs[i]?=some co):t.cs.getD i ⟨[],0,false⟩=co:=by
 rw[F7,h];rfl
theorem C9a{t:Tb}{dc dk df dx:D}(h:O0 t dc dk df dx){c:Ch}(hc:I1 c)(hv:Vd t)(b:Bool)(hb:b=true->t.xs=[]) :
  O0 (F3 t c) (.sl (B3 (F3 t c).cs)) (B9 (A7 dk) (A0 (F3 t c).ks)) (dF (F3 t c).fs) (B9 b (xL (F3 t c).xs)):=by
 have hF:∀l:List Fo,B8 (dF l) (H9 l):=λl=>V8 λe=>by
  cases l with
  |nil=>rfl
  |cons a r=>cases e
 have hK:A7 dk=true->t.ks=[]:=λe=>by
  have:=l4 h.dk e
  cases hks:t.ks with
  |nil=>rfl
  |cons a l=>rw[hks] at this;cases this
 have hl:=hv.l2
 have hkd:∀i,(t.cs.getD i ⟨[],0,false⟩).nm.length<=1048576:=λi=>by
  rw[F7]
  cases hh:t.cs[i]? with
  |none=>simp
  |some x=>exact h.hls x (C3 hh)
 have hset:∀i (n:Co),n.nm.length<=1048576->∀x∈t.cs.set i n,x.nm.length<=1048576:=λi n hn x hx=>by
  rcases A8q hx with hx|rfl
  ·exact h.hls x hx
  ·exact hn
 unfold F3
 split
 ·refine⟨h.hn,by rw[M7];simp;omega,λx hx=>?_,h.hk,h.hfl,h.hfc,by rw[C7];exact h.hxs,λe he=>?_,O7,V8 λe=>by rw[hK e];rfl,hF _,V8 λe=>by rw[hb e];rfl⟩
  ·rcases R3.1 hx with hx|hx
   ·exact h.hls x hx
   ·cases Z3.1 hx;exact hc.cn
  ·obtain⟨a,ha,rfl⟩:=E6.1 he
   exact P3 (A5p a) (h.hxb a ha)
 ·split
  ·refine⟨h.hn,P3 (List.length_eraseIdx_le ..) (by omega),λx hx=>h.hls x (A8p hx),by rw[C7];exact h.hk,by rw[C7];exact h.hfl,λf hf=>?_,by rw[C7];exact h.hxs,λe he=>?_,O7,V8 λe=>by rw[hK e];rfl,hF _,V8 λe=>by rw[hb e];rfl⟩
   ·obtain⟨g,hg,rfl⟩:=E6.1 hf
    exact⟨by unfold I0;rw[C7];exact(h.hfc g hg).1,(h.hfc g hg).2⟩
   ·obtain⟨a,ha,rfl⟩:=E6.1 he
    exact P3 (C8F _ a) (h.hxb a ha)
  ·have hx1:∀e∈t.xs.map F6,e.bk<=1048576:=λe he=>by
    obtain⟨a,ha,rfl⟩:=E6.1 he
    exact P3 (A5p a) (h.hxb a ha)
   split
   ·exact⟨h.hn,by rw[V3];omega,hset _ _ hc.to,h.hk,h.hfl,h.hfc,by rw[C7];exact h.hxs,hx1,O7,V8 λe=>by rw[hK e];rfl,hF _,V8 λe=>by rw[hb e];rfl⟩
   ·exact⟨h.hn,by rw[V3];omega,hset _ _ (hkd _),h.hk,h.hfl,h.hfc,by rw[C7];exact h.hxs,hx1,O7,V8 λe=>by rw[hK e];rfl,hF _,V8 λe=>by rw[hb e];rfl⟩
theorem B9s{t:Tb}(hr:t.Rg):t.xs.map (C0 0)=t.xs.map F6:=A7y λa ha=>D1W a (hr a ha)
theorem A5I{α:Type}{l:List α}(h:l.length<=4):l=[]\/(∃a,l=[a])\/(∃a b,l=[a,b])\/(∃a b c,l=[a,b,c])\/∃a b c d,l=[a,b,c,d]:=by
 match l,h with
 |[],_=>exact .inl rfl
 |[a],_=>exact .inr (.inl ⟨a,rfl⟩)
 |[a,b],_=>exact .inr (.inr (.inl ⟨a,b,rfl⟩))
 |[a,b,c],_=>exact .inr (.inr (.inr (.inl ⟨a,b,c,rfl⟩)))
 |[a,b,c,d],_=>exact .inr (.inr (.inr (.inr ⟨a,b,c,d,rfl⟩)))
 |_::_::_::_::_::_,h=>simp at h
theorem B65{t:Tb}{dc dk df dx:D}(h:O0 t dc dk df dx)(hv:Vd t):dc=.sl (B3 t.cs):=by
 rcases h.dc with ⟨_,h2⟩|h2
 ·have:=hv.l1
  cases hcs:t.cs with
  |nil=>rw[hcs] at this;simp at this
  |cons a l=>rw[hcs] at h2;cases h2
 ·exact h2
end Go.Proofs
end
