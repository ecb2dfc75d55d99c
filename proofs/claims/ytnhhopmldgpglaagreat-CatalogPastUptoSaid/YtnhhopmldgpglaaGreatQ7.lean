/- Texts of this claim, joined. No condition. -/
import Derived.Test.YtnhhopmldgpglaaGreatQ6
set_option linter.unusedSimpArgs false
set_option linter.unusedVariables false
set_option maxRecDepth 10000
set_option maxHeartbeats 4000000
section
set_option maxHeartbeats 8000000
namespace Go.Proofs
open Go.Bi
theorem C0C(nm:List UInt8)(es:List (List D))(hm:∀e∈es,e.length=3)(i:Nat)(hi:i<es.length)(hel:es.length<=1048576)(ks:List Int)(hkb:∀k∈ks,0<=k/\k<=1048576)(hkl:ks.length<=1048576)(kn:Bool)(hkn:kn=true->ks=[])(xs:List Ex)(hxl:xs.length<=1048576)(hxb:∀e∈xs,e.bk<=1048576)(xn:Bool)(hxn:xn=true->xs=[])(c0:List Int)(b0:Bool)(t0:List UInt8)(hc0:c0.length<=1048576)(hcb0:∀k∈c0,0<=k/\k<=1048576)(hn0:b0=true->c0=[])(c1:List Int)(b1:Bool)(t1:List UInt8)(hc1:c1.length<=1048576)(hcb1:∀k∈c1,0<=k/\k<=1048576)(hn1:b1=true->c1=[])(c2:List Int)(b2:Bool)(t2:List UInt8)(hc2:c2.length<=1048576)(hcb2:∀k∈c2,0<=k/\k<=1048576)(hn2:b2=true->c2=[]) :
  B4 Tryz.prog A0z [.ptr 0 0,.d (eI i)] [.cells [.d (.str nm),.arr 1 es.length,.arr 2 (A0 ks).length,.rs 3 3,.arr 4 (xL xs).length],.arr es 3 0 false,.arr (A0 ks) 1 0 kn,.rarr [[.arr 5 (A0 c0).length,.d (.str t0)],[.arr 6 (A0 c1).length,.d (.str t1)],[.arr 7 (A0 c2).length,.d (.str t2)]] 2 false,.arr (xL xs) 7 0 xn,.arr (A0 c0) 1 0 b0,.arr (A0 c1) 1 0 b1,.arr (A0 c2) 1 0 b2]
   (λr os=>r=.tup []/\os=[.cells [.d (.str nm),.d (.sl (es.eraseIdx i)),.arr 2 (A0 ks).length,.rs 3 3,.arr 4 (xL xs).length],.arr (es.eraseIdx i++[M3]) 3 (es.length-1) false,.arr (A0 (ks.map λc=>B0 c i)) 1 0 kn,.rarr [[.arr 5 (A0 c0).length,.d (.str t0)],[.arr 6 (A0 c1).length,.d (.str t1)],[.arr 7 (A0 c2).length,.d (.str t2)]] 2 false,.arr (xL (xs.map (E4 (I0 es.length i)))) 7 0 xn,.arr (A0 (c0.map λc=>B0 c i)) 1 0 b0,.arr (A0 (c1.map λc=>B0 c i)) 1 0 b1,.arr (A0 (c2.map λc=>B0 c i)) 1 0 b2]):=by
 have hD:=fun {os:List AO} (ho:os[1]?=some (.arr es 3 0 false))=>A4x es hm i hi ho
 refine A4F.goX A6 rfl ?_
 repeat' first|refine st ?_|(with_reducible first|apply A5|apply A4)<;>intro _
 refine s0 4 7 rfl rfl ?_
 repeat' first|refine st ?_|(with_reducible first|apply A5|apply A4)<;>intro _
 refine I8 A6 A4P A4K (λ(k:Nat) (A:List (List D))=>[.arr 8 A.length,.d (eI k)]) (λk A=>[.cells [.d (.str nm),.arr 1 es.length,.arr 2 (A0 ks).length,.rs 3 3,.arr 4 (xL xs).length],.arr es 3 0 false,.arr (A0 ks) 1 0 kn,.rarr [[.arr 5 (A0 c0).length,.d (.str t0)],[.arr 6 (A0 c1).length,.d (.str t1)],[.arr 7 (A0 c2).length,.d (.str t2)]] 2 false,.arr (xL xs) 7 0 xn,.arr (A0 c0) 1 0 b0,.arr (A0 c1) 1 0 b1,.arr (A0 c2) 1 0 b2,.arr A 7 0 A.isEmpty]) (λk A=>k<=es.length/\A=xL (I0 k i)) (λk A=>es.length-k) 0 [] rfl rfl rfl rfl (λ_ _ _=>⟨rfl,rfl⟩) rfl ⟨by omega,by simp[I0,xL]⟩ ?_
 repeat' first|refine st ?_|(with_reducible first|apply A5|apply A4)<;>intro _
 intro k A ⟨h4,h5⟩
 have hAl:A.length=k:=by rw[h5,I3,A0Q]
 have hAm:∀e∈A,e.length=7:=by rw[h5];exact N5 _
 by_cases hlt:k<es.length
 ·have hB:=W2 k i (by omega) (by omega)
  have hs:=A5T k i
  rw[<- h5] at hs
  obtain⟨b,hb⟩:∃b,b=B0 k i:=⟨_,rfl⟩
  rw[<- hb] at hB hs
  clear h5
  repeat' first|refine st ?_|((with_reducible first|apply A8|apply A7);(·exact hB))|(with_reducible first|apply A5|apply A4)<;>intro _
  refine⟨k+1,A++[[.int .i64 2,eI b,.int .i64 0,.int .i64 0,.str [],.str [],.nil]],?_,rfl,?_,by omega,by omega,hs⟩
  ·rfl
  ·rw[show(A++[[.int .i64 2,eI b,.int .i64 0,.int .i64 0,.str [],.str [],.nil]]).isEmpty=false by simp]
   first|rfl|skip
 ·have hke:k=es.length:=by omega
  rw[hke] at h5
  have hDc:=hD (os:=[.cells [.d (.str nm),.arr 1 es.length,.arr 2 (A0 ks).length,.rs 3 3,.arr 4 (xL xs).length],.arr es 3 0 false,.arr (A0 ks) 1 0 kn,.rarr [[.arr 5 (A0 c0).length,.d (.str t0)],[.arr 6 (A0 c1).length,.d (.str t1)],[.arr 7 (A0 c2).length,.d (.str t2)]] 2 false,.arr (xL xs) 7 0 xn,.arr (A0 c0) 1 0 b0,.arr (A0 c1) 1 0 b1,.arr (A0 c2) 1 0 b2,.arr A 7 0 A.isEmpty]) rfl
  obtain⟨es',hes'⟩:∃e,e=es.eraseIdx i:=⟨_,rfl⟩
  rw[<- hes'] at hDc ⊢
  obtain⟨M0,hM0⟩:∃L,L=I0 es.length i:=⟨_,rfl⟩
  have hMl:M0.length<=1048576:=by rw[hM0,A0Q];exact hel
  rw[<- hM0] at h5 ⊢
  obtain⟨N0,hN0⟩:∃K,K=A0 (c0.map λc=>B0 c i):=⟨_,rfl⟩
  obtain⟨N1,hN1⟩:∃K,K=A0 (c1.map λc=>B0 c i):=⟨_,rfl⟩
  obtain⟨N2,hN2⟩:∃K,K=A0 (c2.map λc=>B0 c i):=⟨_,rfl⟩
  rw[<- hN0,<- hN1,<- hN2]
  repeat' first|(with_reducible apply I5)|refine st ?_|((with_reducible first|apply I7|apply D8);(·exact hDc);(try rintro _ _ ⟨rfl,rfl⟩))|((with_reducible apply J4);(·exact hDc))|((with_reducible apply I5);refine st ?_;(with_reducible apply J2);(·exact rfl);refine st ?_;(with_reducible apply D8);(·exact hDc);(try rintro _ _ ⟨rfl,rfl⟩))|(with_reducible first|apply A5|apply A4)<;>intro _
  refine F3 A6 A4Q A4L (λ(j:Nat)=>[.d (eI j)]) (λj=>[.cells [.d (.str nm),.d (.sl es'),.arr 2 (A0 ks).length,.rs 3 3,.arr 4 (xL xs).length],.arr (es'++[M3]) 3 (es.length-1) false,.arr (A0 (D6 ks (λc=>B0 c i) j)) 1 0 kn,.rarr [[.arr 5 (A0 c0).length,.d (.str t0)],[.arr 6 (A0 c1).length,.d (.str t1)],[.arr 7 (A0 c2).length,.d (.str t2)]] 2 false,.arr (xL xs) 7 0 xn,.arr (A0 c0) 1 0 b0,.arr (A0 c1) 1 0 b1,.arr (A0 c2) 1 0 b2,.arr A 7 0 A.isEmpty]) (λj=>j<=ks.length) (λj=>ks.length-j) 0 rfl rfl rfl (by rw[o7];rfl) (λ_ _=>⟨rfl,rfl⟩) rfl (by omega) ?_
  repeat' first|refine st ?_|(with_reducible first|apply A5|apply A4)<;>intro _
  intro j h6
  have hKl:=o5 ks (λc=>B0 c i) j h6
  cases hy:ks[j]? with
  |some c=>
   obtain⟨hlt2,he2⟩:=B2.1 hy
   have hkf:kn=false:=by
    cases kn with
    |false=>rfl
    |true=>rw[hkn rfl] at hlt2;simp at hlt2
   subst hkf
   have hg:=J9 (o4 (λc=>B0 c i) hy)
   have hset:=o6 (λc=>B0 c i) hy
   obtain⟨cb1,cb2⟩:=hkb c (C2 hy)
   have hB:=W2 c i (by omega) (by omega)
   have hks:=B6 ks
   obtain⟨y,hyy⟩:∃y,y=B0 c i:=⟨_,rfl⟩
   rw[<- hyy] at hB hset
   have hset2:(A0 (D6 ks (λc=>B0 c i) j)).set j [eI y]=A0 (D6 ks (λc=>B0 c i) (j+1)):=by rw[m8,hset]
   have hml:=B6 (D6 ks (λc=>B0 c i) j)
   have hmm2:=D2 (D6 ks (λc=>B0 c i) j)
   obtain⟨X,hX⟩:∃X,X=A0 (D6 ks (λc=>B0 c i) j):=⟨_,rfl⟩
   rw[<- hX] at hg hset2 hml hmm2 ⊢
   repeat' first|refine st ?_|((with_reducible first|apply A8|apply A7);(·exact hB))|(with_reducible first|apply A5|apply A4)<;>intro _
   refine⟨j+1,rfl,rfl,?_,by omega,by omega⟩
   rw[show((j:Int)).toNat=j from S6 j,hset2]
  |none=>
   have hge:=D1.1 hy
   have hjk:j=ks.length:=by omega
   subst hjk
   rw[o3]
   have hks:=B6 ks
   obtain⟨K',hK'⟩:∃K,K=A0 (ks.map λc=>B0 c i):=⟨_,rfl⟩
   rw[<- hK']
   repeat' first|refine st ?_|(with_reducible first|apply A5|apply A4)<;>intro _
   refine A1z 4 ?_
   refine P4 A6 ?_
   repeat' first|refine st ?_|(with_reducible first|apply A5|apply A4)<;>intro _
   refine F3 A6 A0Z A0Y (λ(j:Nat)=>[.d (eI j)]) (λj=>[.cells [.d (.str nm),.d (.sl es'),.arr 2 (A0 ks).length,.rs 3 3,.arr 4 (xL xs).length],.arr (es'++[M3]) 3 (es.length-1) false,.arr K' 1 0 kn,.rarr [[.arr 5 (A0 c0).length,.d (.str t0)],[.arr 6 (A0 c1).length,.d (.str t1)],[.arr 7 (A0 c2).length,.d (.str t2)]] 2 false,.arr (xL xs) 7 0 xn,.arr (A0 (D6 c0 (λc=>B0 c i) j)) 1 0 b0,.arr (A0 c1) 1 0 b1,.arr (A0 c2) 1 0 b2,.arr A 7 0 A.isEmpty,.cells [.arr 5 (A0 c0).length,.d (.str t0)]]) (λj=>j<=c0.length) (λj=>c0.length-j) 0 rfl rfl rfl (by rw[o7];rfl) (λ_ _=>⟨rfl,rfl⟩) rfl (by omega) ?_
   repeat' first|refine st ?_|(with_reducible first|apply A5|apply A4)<;>intro _
   intro j h6
   have hKl:=o5 c0 (λc=>B0 c i) j h6
   cases hy:c0[j]? with
   |some c=>
    obtain⟨hlt2,he2⟩:=B2.1 hy
    have hkf:b0=false:=by
     cases b0 with
     |false=>rfl
     |true=>rw[hn0 rfl] at hlt2;simp at hlt2
    subst hkf
    have hg:=J9 (o4 (λc=>B0 c i) hy)
    have hset:=o6 (λc=>B0 c i) hy
    obtain⟨cb1,cb2⟩:=hcb0 c (C2 hy)
    have hB:=W2 c i (by omega) (by omega)
    have hks:=B6 c0
    obtain⟨y,hyy⟩:∃y,y=B0 c i:=⟨_,rfl⟩
    rw[<- hyy] at hB hset
    have hset2:(A0 (D6 c0 (λc=>B0 c i) j)).set j [eI y]=A0 (D6 c0 (λc=>B0 c i) (j+1)):=by rw[m8,hset]
    have hml:=B6 (D6 c0 (λc=>B0 c i) j)
    have hmm2:=D2 (D6 c0 (λc=>B0 c i) j)
    obtain⟨X,hX⟩:∃X,X=A0 (D6 c0 (λc=>B0 c i) j):=⟨_,rfl⟩
    rw[<- hX] at hg hset2 hml hmm2 ⊢
    repeat' first|refine st ?_|((with_reducible first|apply A8|apply A7);(·exact hB))|(with_reducible first|apply A5|apply A4)<;>intro _
    refine⟨j+1,rfl,rfl,?_,by omega,by omega⟩
    rw[show((j:Int)).toNat=j from S6 j,hset2]
   |none=>
    have hge:=D1.1 hy
    have hjk:j=c0.length:=by omega
    subst hjk
    rw[o3]
    have hks:=B6 c0
    rw[<- hN0]
    repeat' first|refine st ?_|(with_reducible first|apply A5|apply A4)<;>intro _
    refine P4 A6 ?_
    repeat' first|refine st ?_|(with_reducible first|apply A5|apply A4)<;>intro _
    refine F3 A6 A0Z A0Y (λ(j:Nat)=>[.d (eI j)]) (λj=>[.cells [.d (.str nm),.d (.sl es'),.arr 2 (A0 ks).length,.rs 3 3,.arr 4 (xL xs).length],.arr (es'++[M3]) 3 (es.length-1) false,.arr K' 1 0 kn,.rarr [[.arr 5 (A0 c0).length,.d (.str t0)],[.arr 6 (A0 c1).length,.d (.str t1)],[.arr 7 (A0 c2).length,.d (.str t2)]] 2 false,.arr (xL xs) 7 0 xn,.arr N0 1 0 b0,.arr (A0 (D6 c1 (λc=>B0 c i) j)) 1 0 b1,.arr (A0 c2) 1 0 b2,.arr A 7 0 A.isEmpty,.cells [.arr 5 (A0 c0).length,.d (.str t0)],.cells [.arr 6 (A0 c1).length,.d (.str t1)]]) (λj=>j<=c1.length) (λj=>c1.length-j) 0 rfl rfl rfl (by rw[o7];rfl) (λ_ _=>⟨rfl,rfl⟩) rfl (by omega) ?_
    repeat' first|refine st ?_|(with_reducible first|apply A5|apply A4)<;>intro _
    intro j h6
    have hKl:=o5 c1 (λc=>B0 c i) j h6
    cases hy:c1[j]? with
    |some c=>
     obtain⟨hlt2,he2⟩:=B2.1 hy
     have hkf:b1=false:=by
      cases b1 with
      |false=>rfl
      |true=>rw[hn1 rfl] at hlt2;simp at hlt2
     subst hkf
     have hg:=J9 (o4 (λc=>B0 c i) hy)
     have hset:=o6 (λc=>B0 c i) hy
     obtain⟨cb1,cb2⟩:=hcb1 c (C2 hy)
     have hB:=W2 c i (by omega) (by omega)
     have hks:=B6 c1
     obtain⟨y,hyy⟩:∃y,y=B0 c i:=⟨_,rfl⟩
     rw[<- hyy] at hB hset
     have hset2:(A0 (D6 c1 (λc=>B0 c i) j)).set j [eI y]=A0 (D6 c1 (λc=>B0 c i) (j+1)):=by rw[m8,hset]
     have hml:=B6 (D6 c1 (λc=>B0 c i) j)
     have hmm2:=D2 (D6 c1 (λc=>B0 c i) j)
     obtain⟨X,hX⟩:∃X,X=A0 (D6 c1 (λc=>B0 c i) j):=⟨_,rfl⟩
     rw[<- hX] at hg hset2 hml hmm2 ⊢
     repeat' first|refine st ?_|((with_reducible first|apply A8|apply A7);(·exact hB))|(with_reducible first|apply A5|apply A4)<;>intro _
     refine⟨j+1,rfl,rfl,?_,by omega,by omega⟩
     rw[show((j:Int)).toNat=j from S6 j,hset2]
    |none=>
     have hge:=D1.1 hy
     have hjk:j=c1.length:=by omega
     subst hjk
     rw[o3]
     have hks:=B6 c1
     rw[<- hN1]
     repeat' first|refine st ?_|(with_reducible first|apply A5|apply A4)<;>intro _
     refine P4 A6 ?_
     repeat' first|refine st ?_|(with_reducible first|apply A5|apply A4)<;>intro _
     refine F3 A6 A0Z A0Y (λ(j:Nat)=>[.d (eI j)]) (λj=>[.cells [.d (.str nm),.d (.sl es'),.arr 2 (A0 ks).length,.rs 3 3,.arr 4 (xL xs).length],.arr (es'++[M3]) 3 (es.length-1) false,.arr K' 1 0 kn,.rarr [[.arr 5 (A0 c0).length,.d (.str t0)],[.arr 6 (A0 c1).length,.d (.str t1)],[.arr 7 (A0 c2).length,.d (.str t2)]] 2 false,.arr (xL xs) 7 0 xn,.arr N0 1 0 b0,.arr N1 1 0 b1,.arr (A0 (D6 c2 (λc=>B0 c i) j)) 1 0 b2,.arr A 7 0 A.isEmpty,.cells [.arr 5 (A0 c0).length,.d (.str t0)],.cells [.arr 6 (A0 c1).length,.d (.str t1)],.cells [.arr 7 (A0 c2).length,.d (.str t2)]]) (λj=>j<=c2.length) (λj=>c2.length-j) 0 rfl rfl rfl (by rw[o7];rfl) (λ_ _=>⟨rfl,rfl⟩) rfl (by omega) ?_
     repeat' first|refine st ?_|(with_reducible first|apply A5|apply A4)<;>intro _
     intro j h6
     have hKl:=o5 c2 (λc=>B0 c i) j h6
     cases hy:c2[j]? with
     |some c=>
      obtain⟨hlt2,he2⟩:=B2.1 hy
      have hkf:b2=false:=by
       cases b2 with
       |false=>rfl
       |true=>rw[hn2 rfl] at hlt2;simp at hlt2
      subst hkf
      have hg:=J9 (o4 (λc=>B0 c i) hy)
      have hset:=o6 (λc=>B0 c i) hy
      obtain⟨cb1,cb2⟩:=hcb2 c (C2 hy)
      have hB:=W2 c i (by omega) (by omega)
      have hks:=B6 c2
      obtain⟨y,hyy⟩:∃y,y=B0 c i:=⟨_,rfl⟩
      rw[<- hyy] at hB hset
      have hset2:(A0 (D6 c2 (λc=>B0 c i) j)).set j [eI y]=A0 (D6 c2 (λc=>B0 c i) (j+1)):=by rw[m8,hset]
      have hml:=B6 (D6 c2 (λc=>B0 c i) j)
      have hmm2:=D2 (D6 c2 (λc=>B0 c i) j)
      obtain⟨X,hX⟩:∃X,X=A0 (D6 c2 (λc=>B0 c i) j):=⟨_,rfl⟩
      rw[<- hX] at hg hset2 hml hmm2 ⊢
      repeat' first|refine st ?_|((with_reducible first|apply A8|apply A7);(·exact hB))|(with_reducible first|apply A5|apply A4)<;>intro _
      refine⟨j+1,rfl,rfl,?_,by omega,by omega⟩
      rw[show((j:Int)).toNat=j from S6 j,hset2]
     |none=>
      have hge:=D1.1 hy
      have hjk:j=c2.length:=by omega
      subst hjk
      rw[o3]
      have hks:=B6 c2
      rw[<- hN2]
      repeat' first|refine st ?_|(with_reducible first|apply A5|apply A4)<;>intro _
      refine P4 A6 ?_
      repeat' first|refine st ?_|(with_reducible first|apply A5|apply A4)<;>intro _
      have hAe:A.isEmpty=false:=by cases A with
       |nil=>simp at hAl;omega
       |cons a l=>rfl
      rw[hAe]
      have hXl:=I3 xs
      refine A2D 4 (id:=8) (len:=A.length) (sz:=7) (frz:=0) (nl:=false) (es:=A) rfl rfl rfl ?_
      rw[if_neg (by decide:¬(false=true))]
      repeat' first|refine st ?_|(with_reducible first|apply A5|apply A4)<;>intro _
      refine F3 A6 A4R A4M (λ(q:Nat)=>[.d (eI q)]) (λq=>[.cells [.d (.str nm),.d (.sl es'),.arr 2 (A0 ks).length,.rs 3 3,.arr 4 (xL xs).length],.arr (es'++[M3]) 3 (es.length-1) false,.arr K' 1 0 kn,.rarr [[.arr 5 (A0 c0).length,.d (.str t0)],[.arr 6 (A0 c1).length,.d (.str t1)],[.arr 7 (A0 c2).length,.d (.str t2)]] 2 false,.arr (xL (L6 xs (E4 M0) q)) 7 0 xn,.arr N0 1 0 b0,.arr N1 1 0 b1,.arr N2 1 0 b2,.arr A 7 A.length false,.cells [.arr 5 (A0 c0).length,.d (.str t0)],.cells [.arr 6 (A0 c1).length,.d (.str t1)],.cells [.arr 7 (A0 c2).length,.d (.str t2)]]) (λq=>q<=xs.length) (λq=>xs.length-q) 0 rfl rfl rfl (by rw[A5R];rfl) (λ_ _=>⟨rfl,rfl⟩) rfl (by omega) ?_
      repeat' first|refine st ?_|(with_reducible first|apply A5|apply A4)<;>intro _
      intro q h7
      have hMb:∀a∈M0,a.bk<=1048576:=by
       intro a ha
       rw[hM0] at ha
       obtain⟨b,_,rfl⟩:=F2.1 ha
       unfold mvE Ex.bk
       rw[Ex.ds_mk]
       exact P2 rfl
      have hXql:=A5P xs (E4 M0) q h7
      cases hx:xs[q]? with
      |some x=>
       obtain⟨hlt3,he3⟩:=B2.1 hx
       have hxf:xn=false:=by
        cases xn with
        |false=>rfl
        |true=>rw[hxn rfl] at hlt3;simp at hlt3
       subst hxf
       have hg:=A5O (E4 M0) hx
       have hset:=A5Q (E4 M0) hx
       have hS:=A4r M0 hMl hMb (.sl A) (by rw[h5];exact L4) x (hxb x (C2 hx))
       have hq1:=I3 (L6 xs (E4 M0) q)
       have hq2:=N5 (L6 xs (E4 M0) q)
       obtain⟨z,hz⟩:∃z,z=E4 M0 x:=⟨_,rfl⟩
       rw[<- hz] at hS hset
       have hset2:(xL (L6 xs (E4 M0) q)).set q z.ds=xL (L6 xs (E4 M0) (q+1)):=by rw[<- hset];unfold xL;rw[W4]
       obtain⟨o1,n1,v1,m1,l1,a1⟩:=x
       obtain⟨o2,n2,v2,m2,l2,a2⟩:=z
       have hg:=m5 _ _ _ _ _ _ _ hg
       rw[Ex.av_mk,Ex.av_mk] at hS
       rw[Ex.ds_mk] at hset2
       obtain⟨X,hX⟩:∃X,X=xL (L6 xs (E4 M0) q):=⟨_,rfl⟩
       rw[<- hX] at hg hset2 hq1 hq2 ⊢
       repeat' first|refine st ?_|((with_reducible first|apply A8|apply A7);(·exact hS))|(with_reducible first|apply A5|apply A4)<;>intro _
       refine⟨q+1,rfl,rfl,?_,by omega,by omega⟩
       rw[show((q:Int)).toNat=q from S6 q,hset2]
      |none=>
       have hge:=D1.1 hx
       have hqk:q=xs.length:=by omega
       subst hqk
       rw[A5N]
       repeat' first|refine st ?_|(with_reducible first|apply A5|apply A4)<;>intro _
       exact⟨rfl,rfl⟩
theorem C0D(T0 T1 T2 T3 T4 T7:AO)(nm:List UInt8)(es:List (List D))(hm:∀e∈es,e.length=3)(i:Nat)(hi:i<es.length)(hel:es.length<=1048576)(ks:List Int)(hkb:∀k∈ks,0<=k/\k<=1048576)(hkl:ks.length<=1048576)(kn:Bool)(hkn:kn=true->ks=[])(xs:List Ex)(hxl:xs.length<=1048576)(hxb:∀e∈xs,e.bk<=1048576)(xn:Bool)(hxn:xn=true->xs=[])(c0:List Int)(b0:Bool)(t0:List UInt8)(hc0:c0.length<=1048576)(hcb0:∀k∈c0,0<=k/\k<=1048576)(hn0:b0=true->c0=[])(c1:List Int)(b1:Bool)(t1:List UInt8)(hc1:c1.length<=1048576)(hcb1:∀k∈c1,0<=k/\k<=1048576)(hn1:b1=true->c1=[])(c2:List Int)(b2:Bool)(t2:List UInt8)(hc2:c2.length<=1048576)(hcb2:∀k∈c2,0<=k/\k<=1048576)(hn2:b2=true->c2=[]) :
  B4 Tryz.prog A0z [.ptr 13 0,.d (eI i)] [T0,T1,T2,T3,T4,.arr es 3 0 false,.arr (A0 ks) 1 0 kn,T7,.rarr [[.arr 10 (A0 c0).length,.d (.str t0)],[.arr 11 (A0 c1).length,.d (.str t1)],[.arr 12 (A0 c2).length,.d (.str t2)]] 2 false,.arr (xL xs) 7 0 xn,.arr (A0 c0) 1 0 b0,.arr (A0 c1) 1 0 b1,.arr (A0 c2) 1 0 b2,.cells [.d (.str nm),.arr 5 es.length,.arr 6 (A0 ks).length,.rs 8 3,.arr 9 (xL xs).length]]
   (λr os=>r=.tup []/\os=[T0,T1,T2,T3,T4,.arr (es.eraseIdx i++[M3]) 3 (es.length-1) false,.arr (A0 (ks.map λc=>B0 c i)) 1 0 kn,T7,.rarr [[.arr 10 (A0 c0).length,.d (.str t0)],[.arr 11 (A0 c1).length,.d (.str t1)],[.arr 12 (A0 c2).length,.d (.str t2)]] 2 false,.arr (xL (xs.map (E4 (I0 es.length i)))) 7 0 xn,.arr (A0 (c0.map λc=>B0 c i)) 1 0 b0,.arr (A0 (c1.map λc=>B0 c i)) 1 0 b1,.arr (A0 (c2.map λc=>B0 c i)) 1 0 b2,.cells [.d (.str nm),.d (.sl (es.eraseIdx i)),.arr 6 (A0 ks).length,.rs 8 3,.arr 9 (xL xs).length]]):=by
 have:=B4.frame (K:=λr os=>r=.tup []/\os=[T0,T1,T2,T3,T4,.arr (es.eraseIdx i++[M3]) 3 (es.length-1) false,.arr (A0 (ks.map λc=>B0 c i)) 1 0 kn,T7,.rarr [[.arr 10 (A0 c0).length,.d (.str t0)],[.arr 11 (A0 c1).length,.d (.str t1)],[.arr 12 (A0 c2).length,.d (.str t2)]] 2 false,.arr (xL (xs.map (E4 (I0 es.length i)))) 7 0 xn,.arr (A0 (c0.map λc=>B0 c i)) 1 0 b0,.arr (A0 (c1.map λc=>B0 c i)) 1 0 b1,.arr (A0 (c2.map λc=>B0 c i)) 1 0 b2,.cells [.d (.str nm),.d (.sl (es.eraseIdx i)),.arr 6 (A0 ks).length,.rs 8 3,.arr 9 (xL xs).length]]) (C0C nm es hm i hi hel ks hkb hkl kn hkn xs hxl hxb xn hxn c0 b0 t0 hc0 hcb0 hn0 c1 b1 t1 hc1 hcb1 hn1 c2 b2 t2 hc2 hcb2 hn2) [13,5,6,8,9,10,11,12]
  [T0,T1,T2,T3,T4,.arr es 3 0 false,.arr (A0 ks) 1 0 kn,T7,.rarr [[.arr 10 (A0 c0).length,.d (.str t0)],[.arr 11 (A0 c1).length,.d (.str t1)],[.arr 12 (A0 c2).length,.d (.str t2)]] 2 false,.arr (xL xs) 7 0 xn,.arr (A0 c0) 1 0 b0,.arr (A0 c1) 1 0 b1,.arr (A0 c2) 1 0 b2,.cells [.d (.str nm),.arr 5 es.length,.arr 6 (A0 ks).length,.rs 8 3,.arr 9 (xL xs).length]] rfl (by decide) (λi o h=>by
   match i,h with
   |0,h=>cases h;rfl
   |1,h=>cases h;rfl
   |2,h=>cases h;rfl
   |3,h=>cases h;rfl
   |4,h=>cases h;rfl
   |5,h=>cases h;rfl
   |6,h=>cases h;rfl
   |7,h=>cases h;rfl
   |i+8,h=>simp at h) (λa ha=>by
    simp only[I9,s8,or_false] at ha
    rcases ha with rfl|rfl<;>simp[AV.bnd2,AV.bnd1]) (λo ho=>by
    simp only[I9,s8,or_false] at ho
    rcases ho with rfl|rfl|rfl|rfl|rfl|rfl|rfl|rfl
    ·exact M7 rfl
    ·exact M7 rfl
    ·exact M7 rfl
    ·exact M7 rfl
    ·exact M7 rfl
    ·exact M7 rfl
    ·exact M7 rfl
    ·exact M7 rfl
    ) (by
   rintro r bs' ⟨rfl,rfl⟩
   exact⟨rfl,rfl⟩)
 exact this
end Go.Proofs
end
section
set_option maxHeartbeats 8000000
namespace Go.Proofs
open Go.Bi
theorem C0h(t:Tb)(dc dk df dx:D)(h:N4 t dc dk df dx)(c:Ch)(hc:J1 c)(hq:E5 t c=0)(g0 g1 g2:Fo)(hfs:t.fs=[g0,g1,g2])(hk:c.k=1) :
  Pure Tryz.prog R7 [eT t.nm dc dk df dx,c.av] (.tup [eT t.nm (.sl (B3 (t.cs++[c.co]))) (C0 (A9 dk) (A0 t.ks)) (dF t.fs) (C0 (xL (t.xs.map (B8 0))).isEmpty (xL (t.xs.map (B8 0)))),.d (eI 0)]):=by
 have hC:=U7 t dc dk df dx h c hc
 rw[hq] at hC
 have hF:=T8 t.nm t.cs h.hl dc dk df dx h.dc c.nm
 have hl:=h.hl
 have hdf:=h.df
 have hfc:=h.hfc
 rw[hfs] at hdf hfc
 have hdf2:df=.sl (R4 [⟨g0.d,A0 g0.cs,A9 g0.d,g0.tb⟩,⟨g1.d,A0 g1.cs,A9 g1.d,g1.tb⟩,⟨g2.d,A0 g2.cs,A9 g2.d,g2.tb⟩]):=by
  rcases hdf with ⟨_,h2⟩|h2
  ·cases h2
  ·exact h2
 have hf0:(Fi.mk g0.d (A0 g0.cs) (A9 g0.d) g0.tb).ok:=H5 _ (by rw[B6];have:=(hfc g0 (by simp)).1;omega) (D2 _) g0.d g0.sld
 have hf1:(Fi.mk g1.d (A0 g1.cs) (A9 g1.d) g1.tb).ok:=H5 _ (by rw[B6];have:=(hfc g1 (by simp)).1;omega) (D2 _) g1.d g1.sld
 have hf2:(Fi.mk g2.d (A0 g2.cs) (A9 g2.d) g2.tb).ok:=H5 _ (by rw[B6];have:=(hfc g2 (by simp)).1;omega) (D2 _) g2.d g2.sld
 have hK:=A4o t.nm dc dk df dx (B3 t.cs) (A0 t.ks) (A9 dc) (A9 dk) (V3 _ (by rw[G5];omega) (I1 _) dc h.dc) (H5 _ (by rw[B6];have:=h.hk;omega) (D2 _) dk h.dk) _ _ _ hf0 hf1 hf2 hdf2 t.xs h.hxb h.hxs h.dx
 have hcl:=G5 t.cs
 have q0:g0.d=C0 (A9 g0.d) (A0 g0.cs):=(O8 g0.sld).symm
 have q1:g1.d=C0 (A9 g1.d) (A0 g1.cs):=(O8 g1.sld).symm
 have q2:g2.d=C0 (A9 g2.d) (A0 g2.cs):=(O8 g2.sld).symm
 have e1:B3 (t.cs++[c.co])=B3 t.cs++[c.co.ds]:=by simp[B3]
 rw[e1]
 obtain⟨k,nm,to,⟨cn,ck,cl⟩,⟨vk,vn,vs⟩⟩:=c
 dsimp only at hk
 subst hk
 obtain⟨f,hf⟩:∃f,f=E8 nm t.cs:=⟨_,rfl⟩
 have hF:Bi.Pure Tryz.prog U8 [eT t.nm dc dk df dx,.d (.str nm)] (.d (eI f)):=by rw[hf];exact hF
 rw[show dF t.fs=C0 false (F8 [g0,g1,g2]) by rw[hfs];rfl]
 generalize B3 t.cs=Cs at hK hcl q0 q1 q2 ⊢
 generalize A0 t.ks=Ks at hK hcl q0 q1 q2 ⊢
 generalize xL (t.xs.map (B8 0))=Xs at hK hcl q0 q1 q2 ⊢
 generalize A9 dk=b2 at hK hcl q0 q1 q2 ⊢
 generalize A9 dc=b1 at hK hcl q0 q1 q2 ⊢
 generalize A0 g0.cs=G0 at hK hcl q0 q1 q2 ⊢
 generalize A9 g0.d=n0 at hK hcl q0 q1 q2 ⊢
 generalize A0 g1.cs=G1 at hK hcl q0 q1 q2 ⊢
 generalize A9 g1.d=n1 at hK hcl q0 q1 q2 ⊢
 generalize A0 g2.cs=G2 at hK hcl q0 q1 q2 ⊢
 generalize A9 g2.d=n2 at hK hcl q0 q1 q2 ⊢
 obtain⟨u0,hu0⟩:∃x,x=g0.tb:=⟨_,rfl⟩
 rw[<- hu0] at hK
 obtain⟨u1,hu1⟩:∃x,x=g1.tb:=⟨_,rfl⟩
 rw[<- hu1] at hK
 obtain⟨u2,hu2⟩:∃x,x=g2.tb:=⟨_,rfl⟩
 rw[<- hu2] at hK
 refine B4.deepP (Q:=λr os=>r=.tup [.agg [.d (.str t.nm),.arr 5 (Cs++[[.str cn,eI ck,.bool cl]]).length,.arr 6 Ks.length,.rs 8 3,.arr 9 Xs.length],.d (eI 0)]/\os[5]?=some (.arr (Cs++[[.str cn,eI ck,.bool cl]]) 3 0 false)/\os[6]?=some (.arr Ks 1 0 b2)/\os[8]?=some (.rarr [[.arr 10 G0.length,.d (.str u0)],[.arr 11 G1.length,.d (.str u1)],[.arr 12 G2.length,.d (.str u2)]] 2 false)/\os[9]?=some (.arr Xs 7 0 Xs.isEmpty)/\os[10]?=some (.arr G0 1 0 n0)/\os[11]?=some (.arr G1 1 0 n1)/\os[12]?=some (.arr G2 1 0 n2)) ?_ ?_
 ·refine V4.goO2 A6 rfl ?_
  repeat' first|refine st ?_|((with_reducible first|apply A8|apply A7);(·first|exact hC|exact hF))|((with_reducible first|apply I7|apply D8);(·exact hK);(try rintro _ _ ⟨rfl,rfl⟩))|((with_reducible apply J4);(·exact hK))|((with_reducible apply I5);refine st ?_;(with_reducible apply J2);(·exact rfl);refine st ?_;(with_reducible apply D8);(·exact hK);(try rintro _ _ ⟨rfl,rfl⟩))|(with_reducible first|apply A5|apply A4)<;>intro _
  exact⟨rfl,rfl,rfl,rfl,rfl,rfl,rfl,rfl⟩
 ·rintro r os ⟨rfl,hx0,hx1,hx2,hx3,hx4,hx5,hx6⟩
  refine V6 (rows:=[[.arr 10 G0.length,.d (.str u0)],[.arr 11 G1.length,.d (.str u1)],[.arr 12 G2.length,.d (.str u2)]]) (fs:=[g0,g1,g2]) (.inl (.inr ⟨5,_,3,0,false,rfl,hx0,rfl⟩)) hx1 hx2 hx3 rfl (λi e g he hg=>?_)
  match i,he,hg with
  |0,he,hg=>cases he;cases hg;exact⟨10,_,n0,by rw[hu0],hx4,q0⟩
  |1,he,hg=>cases he;cases hg;exact⟨11,_,n1,by rw[hu1],hx5,q1⟩
  |2,he,hg=>cases he;cases hg;exact⟨12,_,n2,by rw[hu2],hx6,q2⟩
  |i+3,he,hg=>simp at he
theorem C0j(t:Tb)(dc dk df dx:D)(h:N4 t dc dk df dx)(c:Ch)(hc:J1 c)(hq:E5 t c=0)(g0 g1 g2:Fo)(hfs:t.fs=[g0,g1,g2])(hk:c.k=3)(i:Nat)(hi:E8 c.nm t.cs=i)(co:Co)(hco:t.cs[i]?=some co)(hdc:dc=.sl (B3 t.cs)) :
  Pure Tryz.prog R7 [eT t.nm dc dk df dx,c.av] (.tup [eT t.nm (.sl (B3 (t.cs.set i ⟨c.to,co.k,co.nl⟩))) (C0 (A9 dk) (A0 t.ks)) (dF t.fs) (C0 (xL (t.xs.map (B8 0))).isEmpty (xL (t.xs.map (B8 0)))),.d (eI 0)]):=by
 have hC:=U7 t dc dk df dx h c hc
 rw[hq] at hC
 have hF:=T8 t.nm t.cs h.hl dc dk df dx h.dc c.nm
 have hl:=h.hl
 have hdf:=h.df
 have hfc:=h.hfc
 rw[hfs] at hdf hfc
 rw[hi] at hF
 have hdf2:df=.sl (R4 [⟨g0.d,A0 g0.cs,A9 g0.d,g0.tb⟩,⟨g1.d,A0 g1.cs,A9 g1.d,g1.tb⟩,⟨g2.d,A0 g2.cs,A9 g2.d,g2.tb⟩]):=by
  rcases hdf with ⟨_,h2⟩|h2
  ·cases h2
  ·exact h2
 have hf0:(Fi.mk g0.d (A0 g0.cs) (A9 g0.d) g0.tb).ok:=H5 _ (by rw[B6];have:=(hfc g0 (by simp)).1;omega) (D2 _) g0.d g0.sld
 have hf1:(Fi.mk g1.d (A0 g1.cs) (A9 g1.d) g1.tb).ok:=H5 _ (by rw[B6];have:=(hfc g1 (by simp)).1;omega) (D2 _) g1.d g1.sld
 have hf2:(Fi.mk g2.d (A0 g2.cs) (A9 g2.d) g2.tb).ok:=H5 _ (by rw[B6];have:=(hfc g2 (by simp)).1;omega) (D2 _) g2.d g2.sld
 have hK:=A4o t.nm dc dk df dx (B3 t.cs) (A0 t.ks) (A9 dc) (A9 dk) (V3 _ (by rw[G5];omega) (I1 _) dc h.dc) (H5 _ (by rw[B6];have:=h.hk;omega) (D2 _) dk h.dk) _ _ _ hf0 hf1 hf2 hdf2 t.xs h.hxb h.hxs h.dx
 have hcl:=G5 t.cs
 rw[show A9 dc=false by rw[hdc];rfl] at hK
 have q0:g0.d=C0 (A9 g0.d) (A0 g0.cs):=(O8 g0.sld).symm
 have q1:g1.d=C0 (A9 g1.d) (A0 g1.cs):=(O8 g1.sld).symm
 have q2:g2.d=C0 (A9 g2.d) (A0 g2.cs):=(O8 g2.sld).symm
 have hg:(B3 t.cs)[((i:Nat):Int).toNat]?=some [.str co.nm,eI co.k,.bool co.nl]:=L5 hco
 have hg2:(B3 t.cs)[i]?=some [.str co.nm,eI co.k,.bool co.nl]:=L5 hco
 have hmm:=I1 t.cs
 have hilt:i<(B3 t.cs).length:=by rw[hcl];exact(B2.1 hco).1
 have e1:B3 (t.cs.set i ⟨c.to,co.k,co.nl⟩)=(B3 t.cs).set i [.str c.to,eI co.k,.bool co.nl]:=by unfold B3;rw[W4]
 rw[e1]
 obtain⟨k,nm,to,⟨cn,ck,cl⟩,⟨vk,vn,vs⟩⟩:=c
 dsimp only at hk
 subst hk
 have hF:Bi.Pure Tryz.prog U8 [eT t.nm dc dk df dx,.d (.str nm)] (.d (eI i)):=hF
 rw[show dF t.fs=C0 false (F8 [g0,g1,g2]) by rw[hfs];rfl]
 generalize B3 t.cs=Cs at hK hcl hg hg2 hmm hilt q0 q1 q2 ⊢
 generalize A0 t.ks=Ks at hK hcl hg hg2 hmm hilt q0 q1 q2 ⊢
 generalize xL (t.xs.map (B8 0))=Xs at hK hcl hg hg2 hmm hilt q0 q1 q2 ⊢
 generalize A9 dk=b2 at hK hcl hg hg2 hmm hilt q0 q1 q2 ⊢
 generalize A0 g0.cs=G0 at hK hcl hg hg2 hmm hilt q0 q1 q2 ⊢
 generalize A9 g0.d=n0 at hK hcl hg hg2 hmm hilt q0 q1 q2 ⊢
 generalize A0 g1.cs=G1 at hK hcl hg hg2 hmm hilt q0 q1 q2 ⊢
 generalize A9 g1.d=n1 at hK hcl hg hg2 hmm hilt q0 q1 q2 ⊢
 generalize A0 g2.cs=G2 at hK hcl hg hg2 hmm hilt q0 q1 q2 ⊢
 generalize A9 g2.d=n2 at hK hcl hg hg2 hmm hilt q0 q1 q2 ⊢
 obtain⟨u0,hu0⟩:∃x,x=g0.tb:=⟨_,rfl⟩
 rw[<- hu0] at hK
 obtain⟨u1,hu1⟩:∃x,x=g1.tb:=⟨_,rfl⟩
 rw[<- hu1] at hK
 obtain⟨u2,hu2⟩:∃x,x=g2.tb:=⟨_,rfl⟩
 rw[<- hu2] at hK
 refine B4.deepP (Q:=λr os=>r=.tup [.agg [.d (.str t.nm),.arr 5 (Cs.set i [.str to,eI co.k,.bool co.nl]).length,.arr 6 Ks.length,.rs 8 3,.arr 9 Xs.length],.d (eI 0)]/\os[5]?=some (.arr (Cs.set i [.str to,eI co.k,.bool co.nl]) 3 0 false)/\os[6]?=some (.arr Ks 1 0 b2)/\os[8]?=some (.rarr [[.arr 10 G0.length,.d (.str u0)],[.arr 11 G1.length,.d (.str u1)],[.arr 12 G2.length,.d (.str u2)]] 2 false)/\os[9]?=some (.arr Xs 7 0 Xs.isEmpty)/\os[10]?=some (.arr G0 1 0 n0)/\os[11]?=some (.arr G1 1 0 n1)/\os[12]?=some (.arr G2 1 0 n2)) ?_ ?_
 ·refine V4.goO2 A6 rfl ?_
  rw[Y4]
  repeat' first|refine st ?_|((with_reducible first|apply A8|apply A7);(·first|exact hC|exact hF))|((with_reducible first|apply I7|apply D8);(·exact hK);(try rintro _ _ ⟨rfl,rfl⟩))|((with_reducible apply J4);(·exact hK))|((with_reducible apply I5);refine st ?_;(with_reducible apply J2);(·exact rfl);refine st ?_;(with_reducible apply D8);(·exact hK);(try rintro _ _ ⟨rfl,rfl⟩))|(with_reducible first|apply A5|apply A4)<;>intro _
  exact⟨rfl,rfl,rfl,rfl,rfl,rfl,rfl,rfl⟩
 ·rintro r os ⟨rfl,hx0,hx1,hx2,hx3,hx4,hx5,hx6⟩
  refine V6 (rows:=[[.arr 10 G0.length,.d (.str u0)],[.arr 11 G1.length,.d (.str u1)],[.arr 12 G2.length,.d (.str u2)]]) (fs:=[g0,g1,g2]) (.inl (.inr ⟨5,_,3,0,false,rfl,hx0,rfl⟩)) hx1 hx2 hx3 rfl (λi e g he hg=>?_)
  match i,he,hg with
  |0,he,hg=>cases he;cases hg;exact⟨10,_,n0,by rw[hu0],hx4,q0⟩
  |1,he,hg=>cases he;cases hg;exact⟨11,_,n1,by rw[hu1],hx5,q1⟩
  |2,he,hg=>cases he;cases hg;exact⟨12,_,n2,by rw[hu2],hx6,q2⟩
  |i+3,he,hg=>simp at he
theorem C0k(t:Tb)(dc dk df dx:D)(h:N4 t dc dk df dx)(c:Ch)(hc:J1 c)(hq:E5 t c=0)(g0 g1 g2:Fo)(hfs:t.fs=[g0,g1,g2])(hk:c.k=4)(i:Nat)(hi:E8 c.nm t.cs=i)(co:Co)(hco:t.cs[i]?=some co)(hdc:dc=.sl (B3 t.cs)) :
  Pure Tryz.prog R7 [eT t.nm dc dk df dx,c.av] (.tup [eT t.nm (.sl (B3 (t.cs.set i ⟨co.nm,2,co.nl⟩))) (C0 (A9 dk) (A0 t.ks)) (dF t.fs) (C0 (xL (t.xs.map (B8 0))).isEmpty (xL (t.xs.map (B8 0)))),.d (eI 0)]):=by
 have hC:=U7 t dc dk df dx h c hc
 rw[hq] at hC
 have hF:=T8 t.nm t.cs h.hl dc dk df dx h.dc c.nm
 have hl:=h.hl
 have hdf:=h.df
 have hfc:=h.hfc
 rw[hfs] at hdf hfc
 rw[hi] at hF
 have hdf2:df=.sl (R4 [⟨g0.d,A0 g0.cs,A9 g0.d,g0.tb⟩,⟨g1.d,A0 g1.cs,A9 g1.d,g1.tb⟩,⟨g2.d,A0 g2.cs,A9 g2.d,g2.tb⟩]):=by
  rcases hdf with ⟨_,h2⟩|h2
  ·cases h2
  ·exact h2
 have hf0:(Fi.mk g0.d (A0 g0.cs) (A9 g0.d) g0.tb).ok:=H5 _ (by rw[B6];have:=(hfc g0 (by simp)).1;omega) (D2 _) g0.d g0.sld
 have hf1:(Fi.mk g1.d (A0 g1.cs) (A9 g1.d) g1.tb).ok:=H5 _ (by rw[B6];have:=(hfc g1 (by simp)).1;omega) (D2 _) g1.d g1.sld
 have hf2:(Fi.mk g2.d (A0 g2.cs) (A9 g2.d) g2.tb).ok:=H5 _ (by rw[B6];have:=(hfc g2 (by simp)).1;omega) (D2 _) g2.d g2.sld
 have hK:=A4o t.nm dc dk df dx (B3 t.cs) (A0 t.ks) (A9 dc) (A9 dk) (V3 _ (by rw[G5];omega) (I1 _) dc h.dc) (H5 _ (by rw[B6];have:=h.hk;omega) (D2 _) dk h.dk) _ _ _ hf0 hf1 hf2 hdf2 t.xs h.hxb h.hxs h.dx
 have hcl:=G5 t.cs
 rw[show A9 dc=false by rw[hdc];rfl] at hK
 have q0:g0.d=C0 (A9 g0.d) (A0 g0.cs):=(O8 g0.sld).symm
 have q1:g1.d=C0 (A9 g1.d) (A0 g1.cs):=(O8 g1.sld).symm
 have q2:g2.d=C0 (A9 g2.d) (A0 g2.cs):=(O8 g2.sld).symm
 have hg:(B3 t.cs)[((i:Nat):Int).toNat]?=some [.str co.nm,eI co.k,.bool co.nl]:=L5 hco
 have hg2:(B3 t.cs)[i]?=some [.str co.nm,eI co.k,.bool co.nl]:=L5 hco
 have hmm:=I1 t.cs
 have hilt:i<(B3 t.cs).length:=by rw[hcl];exact(B2.1 hco).1
 have e1:B3 (t.cs.set i ⟨co.nm,2,co.nl⟩)=(B3 t.cs).set i [.str co.nm,eI 2,.bool co.nl]:=by unfold B3;rw[W4]
 rw[e1]
 obtain⟨k,nm,to,⟨cn,ck,cl⟩,⟨vk,vn,vs⟩⟩:=c
 dsimp only at hk
 subst hk
 have hF:Bi.Pure Tryz.prog U8 [eT t.nm dc dk df dx,.d (.str nm)] (.d (eI i)):=hF
 rw[show dF t.fs=C0 false (F8 [g0,g1,g2]) by rw[hfs];rfl]
 generalize B3 t.cs=Cs at hK hcl hg hg2 hmm hilt q0 q1 q2 ⊢
 generalize A0 t.ks=Ks at hK hcl hg hg2 hmm hilt q0 q1 q2 ⊢
 generalize xL (t.xs.map (B8 0))=Xs at hK hcl hg hg2 hmm hilt q0 q1 q2 ⊢
 generalize A9 dk=b2 at hK hcl hg hg2 hmm hilt q0 q1 q2 ⊢
 generalize A0 g0.cs=G0 at hK hcl hg hg2 hmm hilt q0 q1 q2 ⊢
 generalize A9 g0.d=n0 at hK hcl hg hg2 hmm hilt q0 q1 q2 ⊢
 generalize A0 g1.cs=G1 at hK hcl hg hg2 hmm hilt q0 q1 q2 ⊢
 generalize A9 g1.d=n1 at hK hcl hg hg2 hmm hilt q0 q1 q2 ⊢
 generalize A0 g2.cs=G2 at hK hcl hg hg2 hmm hilt q0 q1 q2 ⊢
 generalize A9 g2.d=n2 at hK hcl hg hg2 hmm hilt q0 q1 q2 ⊢
 obtain⟨u0,hu0⟩:∃x,x=g0.tb:=⟨_,rfl⟩
 rw[<- hu0] at hK
 obtain⟨u1,hu1⟩:∃x,x=g1.tb:=⟨_,rfl⟩
 rw[<- hu1] at hK
 obtain⟨u2,hu2⟩:∃x,x=g2.tb:=⟨_,rfl⟩
 rw[<- hu2] at hK
 refine B4.deepP (Q:=λr os=>r=.tup [.agg [.d (.str t.nm),.arr 5 (Cs.set i [.str co.nm,eI 2,.bool co.nl]).length,.arr 6 Ks.length,.rs 8 3,.arr 9 Xs.length],.d (eI 0)]/\os[5]?=some (.arr (Cs.set i [.str co.nm,eI 2,.bool co.nl]) 3 0 false)/\os[6]?=some (.arr Ks 1 0 b2)/\os[8]?=some (.rarr [[.arr 10 G0.length,.d (.str u0)],[.arr 11 G1.length,.d (.str u1)],[.arr 12 G2.length,.d (.str u2)]] 2 false)/\os[9]?=some (.arr Xs 7 0 Xs.isEmpty)/\os[10]?=some (.arr G0 1 0 n0)/\os[11]?=some (.arr G1 1 0 n1)/\os[12]?=some (.arr G2 1 0 n2)) ?_ ?_
 ·refine V4.goO2 A6 rfl ?_
  rw[Y4]
  repeat' first|refine st ?_|((with_reducible first|apply A8|apply A7);(·first|exact hC|exact hF))|((with_reducible first|apply I7|apply D8);(·exact hK);(try rintro _ _ ⟨rfl,rfl⟩))|((with_reducible apply J4);(·exact hK))|((with_reducible apply I5);refine st ?_;(with_reducible apply J2);(·exact rfl);refine st ?_;(with_reducible apply D8);(·exact hK);(try rintro _ _ ⟨rfl,rfl⟩))|(with_reducible first|apply A5|apply A4)<;>intro _
  exact⟨rfl,rfl,rfl,rfl,rfl,rfl,rfl,rfl⟩
 ·rintro r os ⟨rfl,hx0,hx1,hx2,hx3,hx4,hx5,hx6⟩
  refine V6 (rows:=[[.arr 10 G0.length,.d (.str u0)],[.arr 11 G1.length,.d (.str u1)],[.arr 12 G2.length,.d (.str u2)]]) (fs:=[g0,g1,g2]) (.inl (.inr ⟨5,_,3,0,false,rfl,hx0,rfl⟩)) hx1 hx2 hx3 rfl (λi e g he hg=>?_)
  match i,he,hg with
  |0,he,hg=>cases he;cases hg;exact⟨10,_,n0,by rw[hu0],hx4,q0⟩
  |1,he,hg=>cases he;cases hg;exact⟨11,_,n1,by rw[hu1],hx5,q1⟩
  |2,he,hg=>cases he;cases hg;exact⟨12,_,n2,by rw[hu2],hx6,q2⟩
  |i+3,he,hg=>simp at he
theorem C0i(t:Tb)(dc dk df dx:D)(h:N4 t dc dk df dx)(c:Ch)(hc:J1 c)(hq:E5 t c=0)(g0 g1 g2:Fo)(hfs:t.fs=[g0,g1,g2])(hk:c.k=2)(i:Nat)(hi:E8 c.nm t.cs=i)(hil:i<t.cs.length)(hdc:dc=.sl (B3 t.cs))(hkb:∀k∈t.ks,0<=k/\k<=1048576)(hfb:∀g∈t.fs,∀k∈g.cs,0<=k/\k<=1048576)(hxb:∀e∈t.xs.map (B8 0),e.bk<=1048576) :
  Pure Tryz.prog R7 [eT t.nm dc dk df dx,c.av] (.tup [eT t.nm (.sl (B3 (t.cs.eraseIdx i))) (C0 (A9 dk) (A0 (t.ks.map λc=>B0 c i))) (dF (t.fs.map (I4 i))) (C0 (xL (t.xs.map (B8 0))).isEmpty (xL ((t.xs.map (B8 0)).map (E4 (I0 t.cs.length i))))),.d (eI 0)]):=by
 have hC:=U7 t dc dk df dx h c hc
 rw[hq] at hC
 have hF:=T8 t.nm t.cs h.hl dc dk df dx h.dc c.nm
 have hl:=h.hl
 have hdf:=h.df
 have hfc:=h.hfc
 rw[hfs] at hdf hfc
 rw[hi] at hF
 have hdf2:df=.sl (R4 [⟨g0.d,A0 g0.cs,A9 g0.d,g0.tb⟩,⟨g1.d,A0 g1.cs,A9 g1.d,g1.tb⟩,⟨g2.d,A0 g2.cs,A9 g2.d,g2.tb⟩]):=by
  rcases hdf with ⟨_,h2⟩|h2
  ·cases h2
  ·exact h2
 have hf0:(Fi.mk g0.d (A0 g0.cs) (A9 g0.d) g0.tb).ok:=H5 _ (by rw[B6];have:=(hfc g0 (by simp)).1;omega) (D2 _) g0.d g0.sld
 have hf1:(Fi.mk g1.d (A0 g1.cs) (A9 g1.d) g1.tb).ok:=H5 _ (by rw[B6];have:=(hfc g1 (by simp)).1;omega) (D2 _) g1.d g1.sld
 have hf2:(Fi.mk g2.d (A0 g2.cs) (A9 g2.d) g2.tb).ok:=H5 _ (by rw[B6];have:=(hfc g2 (by simp)).1;omega) (D2 _) g2.d g2.sld
 have hK:=A4o t.nm dc dk df dx (B3 t.cs) (A0 t.ks) (A9 dc) (A9 dk) (V3 _ (by rw[G5];omega) (I1 _) dc h.dc) (H5 _ (by rw[B6];have:=h.hk;omega) (D2 _) dk h.dk) _ _ _ hf0 hf1 hf2 hdf2 t.xs h.hxb h.hxs h.dx
 have hcl:=G5 t.cs
 rw[show A9 dc=false by rw[hdc];rfl] at hK
 have hkN:A9 dk=true->t.ks=[]:=λhh=>by
  have:=l0 h.dk hh
  cases hks:t.ks with
  |nil=>rfl
  |cons a l=>rw[hks] at this;cases this
 have hxN:(xL (t.xs.map (B8 0))).isEmpty=true->t.xs.map (B8 0)=[]:=by
  intro hh
  cases hx:t.xs.map (B8 0) with
  |nil=>rfl
  |cons a l=>rw[hx] at hh;cases hh
 have hN0:A9 g0.d=true->g0.cs=[]:=λhh=>by
  have:=l0 g0.sld hh
  cases hks:g0.cs with
  |nil=>rfl
  |cons a l=>rw[hks] at this;cases this
 have hB0:=hfb g0 (by rw[hfs];simp)
 have hN1:A9 g1.d=true->g1.cs=[]:=λhh=>by
  have:=l0 g1.sld hh
  cases hks:g1.cs with
  |nil=>rfl
  |cons a l=>rw[hks] at this;cases this
 have hB1:=hfb g1 (by rw[hfs];simp)
 have hN2:A9 g2.d=true->g2.cs=[]:=λhh=>by
  have:=l0 g2.sld hh
  cases hks:g2.cs with
  |nil=>rfl
  |cons a l=>rw[hks] at this;cases this
 have hB2:=hfb g2 (by rw[hfs];simp)
 have hD:=λT0 T1 T2 T3 T4 T7=>C0D T0 T1 T2 T3 T4 T7 t.nm (B3 t.cs) (I1 _) i (by rw[hcl];exact hil) (by rw[hcl];exact hl) t.ks hkb h.hk (A9 dk) hkN (t.xs.map (B8 0)) (by rw[D0];exact h.hxs) hxb _ hxN g0.cs (A9 g0.d) g0.tb (hfc g0 (by simp)).1 hB0 hN0 g1.cs (A9 g1.d) g1.tb (hfc g1 (by simp)).1 hB1 hN1 g2.cs (A9 g2.d) g2.tb (hfc g2 (by simp)).1 hB2 hN2
 rw[hcl] at hD
 have hkl2:(A0 (t.ks.map λc=>B0 c i)).length=(A0 t.ks).length:=by rw[B6,B6,D0]
 have hxl2:(xL ((t.xs.map (B8 0)).map (E4 (I0 t.cs.length i)))).length=(xL (t.xs.map (B8 0))).length:=by rw[I3,I3,D0]
 have hkl20:(A0 (g0.cs.map λc=>B0 c i)).length=(A0 g0.cs).length:=by rw[B6,B6,D0]
 have hkl21:(A0 (g1.cs.map λc=>B0 c i)).length=(A0 g1.cs).length:=by rw[B6,B6,D0]
 have hkl22:(A0 (g2.cs.map λc=>B0 c i)).length=(A0 g2.cs).length:=by rw[B6,B6,D0]
 have q0:(I4 i g0).d=C0 (A9 g0.d) (A0 (g0.cs.map λc=>B0 c i)):=A13 i g0
 have q1:(I4 i g1).d=C0 (A9 g1.d) (A0 (g1.cs.map λc=>B0 c i)):=A13 i g1
 have q2:(I4 i g2).d=C0 (A9 g2.d) (A0 (g2.cs.map λc=>B0 c i)):=A13 i g2
 have e1:B3 (t.cs.eraseIdx i)=(B3 t.cs).eraseIdx i:=A3L _ _
 rw[e1]
 obtain⟨k,nm,to,⟨cn,ck,cl⟩,⟨vk,vn,vs⟩⟩:=c
 dsimp only at hk
 subst hk
 have hF:Bi.Pure Tryz.prog U8 [eT t.nm dc dk df dx,.d (.str nm)] (.d (eI i)):=hF
 rw[show dF (t.fs.map (I4 i))=C0 false (F8 [I4 i g0,I4 i g1,I4 i g2]) by rw[hfs];rfl]
 rw[hcl] at hK
 generalize A0 (t.ks.map λc=>B0 c i)=K2 at hK hcl hkl2 hxl2 hkl20 hkl21 hkl22 q0 q1 q2 hD ⊢
 generalize xL ((t.xs.map (B8 0)).map (E4 (I0 t.cs.length i)))=X2 at hK hcl hkl2 hxl2 hkl20 hkl21 hkl22 q0 q1 q2 hD ⊢
 generalize (B3 t.cs).eraseIdx i=E2 at hK hcl hkl2 hxl2 hkl20 hkl21 hkl22 q0 q1 q2 hD ⊢
 generalize A0 (g0.cs.map λc=>B0 c i)=H0 at hK hcl hkl2 hxl2 hkl20 hkl21 hkl22 q0 q1 q2 hD ⊢
 generalize A0 (g1.cs.map λc=>B0 c i)=H1 at hK hcl hkl2 hxl2 hkl20 hkl21 hkl22 q0 q1 q2 hD ⊢
 generalize A0 (g2.cs.map λc=>B0 c i)=H2 at hK hcl hkl2 hxl2 hkl20 hkl21 hkl22 q0 q1 q2 hD ⊢
 generalize B3 t.cs=Cs at hK hcl hkl2 hxl2 hkl20 hkl21 hkl22 q0 q1 q2 hD ⊢
 generalize A0 t.ks=Ks at hK hcl hkl2 hxl2 hkl20 hkl21 hkl22 q0 q1 q2 hD ⊢
 generalize xL (t.xs.map (B8 0))=Xs at hK hcl hkl2 hxl2 hkl20 hkl21 hkl22 q0 q1 q2 hD ⊢
 generalize A9 dk=b2 at hK hcl hkl2 hxl2 hkl20 hkl21 hkl22 q0 q1 q2 hD ⊢
 generalize A0 g0.cs=G0 at hK hcl hkl2 hxl2 hkl20 hkl21 hkl22 q0 q1 q2 hD ⊢
 generalize A9 g0.d=n0 at hK hcl hkl2 hxl2 hkl20 hkl21 hkl22 q0 q1 q2 hD ⊢
 generalize A0 g1.cs=G1 at hK hcl hkl2 hxl2 hkl20 hkl21 hkl22 q0 q1 q2 hD ⊢
 generalize A9 g1.d=n1 at hK hcl hkl2 hxl2 hkl20 hkl21 hkl22 q0 q1 q2 hD ⊢
 generalize A0 g2.cs=G2 at hK hcl hkl2 hxl2 hkl20 hkl21 hkl22 q0 q1 q2 hD ⊢
 generalize A9 g2.d=n2 at hK hcl hkl2 hxl2 hkl20 hkl21 hkl22 q0 q1 q2 hD ⊢
 obtain⟨u0,hu0⟩:∃x,x=g0.tb:=⟨_,rfl⟩
 rw[<- hu0] at hK
 simp only[<- hu0] at hD
 obtain⟨u1,hu1⟩:∃x,x=g1.tb:=⟨_,rfl⟩
 rw[<- hu1] at hK
 simp only[<- hu1] at hD
 obtain⟨u2,hu2⟩:∃x,x=g2.tb:=⟨_,rfl⟩
 rw[<- hu2] at hK
 simp only[<- hu2] at hD
 refine B4.deepP (Q:=λr os=>r=.tup [.agg [.d (.str t.nm),.d (.sl E2),.arr 6 K2.length,.rs 8 3,.arr 9 X2.length],.d (eI 0)]/\os[6]?=some (.arr K2 1 0 b2)/\os[8]?=some (.rarr [[.arr 10 H0.length,.d (.str u0)],[.arr 11 H1.length,.d (.str u1)],[.arr 12 H2.length,.d (.str u2)]] 2 false)/\os[9]?=some (.arr X2 7 0 Xs.isEmpty)/\os[10]?=some (.arr H0 1 0 n0)/\os[11]?=some (.arr H1 1 0 n1)/\os[12]?=some (.arr H2 1 0 n2)) ?_ ?_
 ·rw[hkl2,hxl2]
  rw[hkl20,hkl21,hkl22]
  refine V4.goO2 A6 rfl ?_
  repeat' first|refine st ?_|((with_reducible first|apply A8|apply A7);(·first|exact hC|exact hF))|((with_reducible first|apply I7|apply D8);(·first|exact hK|exact hD _ _ _ _ _ _);(try rintro _ _ ⟨rfl,rfl⟩))|((with_reducible apply J4);(·first|exact hK|exact hD _ _ _ _ _ _))|((with_reducible apply I5);refine st ?_;(with_reducible apply J2);(·exact rfl);refine st ?_;(with_reducible apply D8);(·first|exact hK|exact hD _ _ _ _ _ _);(try rintro _ _ ⟨rfl,rfl⟩))|(with_reducible first|apply A5|apply A4)<;>intro _
  exact⟨rfl,rfl,rfl,rfl,rfl,rfl,rfl⟩
 ·rintro r os ⟨rfl,hx0,hx1,hx2,hx3,hx4,hx5⟩
  refine V6 (rows:=[[.arr 10 H0.length,.d (.str u0)],[.arr 11 H1.length,.d (.str u1)],[.arr 12 H2.length,.d (.str u2)]]) (fs:=[I4 i g0,I4 i g1,I4 i g2]) (.inl (.inl rfl)) hx0 hx1 hx2 rfl (λi e g he hg=>?_)
  match i,he,hg with
  |0,he,hg=>cases he;cases hg;exact⟨10,_,n0,by rw[hu0];rfl,hx3,q0⟩
  |1,he,hg=>cases he;cases hg;exact⟨11,_,n1,by rw[hu1];rfl,hx4,q1⟩
  |2,he,hg=>cases he;cases hg;exact⟨12,_,n2,by rw[hu2];rfl,hx5,q2⟩
  |i+3,he,hg=>simp at he
end Go.Proofs
end
section
set_option maxHeartbeats 8000000
namespace Go.Proofs
open Go.Bi
theorem C0E(nm:List UInt8)(es:List (List D))(hm:∀e∈es,e.length=3)(i:Nat)(hi:i<es.length)(hel:es.length<=1048576)(ks:List Int)(hkb:∀k∈ks,0<=k/\k<=1048576)(hkl:ks.length<=1048576)(kn:Bool)(hkn:kn=true->ks=[])(xs:List Ex)(hxl:xs.length<=1048576)(hxb:∀e∈xs,e.bk<=1048576)(xn:Bool)(hxn:xn=true->xs=[])(c0:List Int)(b0:Bool)(t0:List UInt8)(hc0:c0.length<=1048576)(hcb0:∀k∈c0,0<=k/\k<=1048576)(hn0:b0=true->c0=[])(c1:List Int)(b1:Bool)(t1:List UInt8)(hc1:c1.length<=1048576)(hcb1:∀k∈c1,0<=k/\k<=1048576)(hn1:b1=true->c1=[])(c2:List Int)(b2:Bool)(t2:List UInt8)(hc2:c2.length<=1048576)(hcb2:∀k∈c2,0<=k/\k<=1048576)(hn2:b2=true->c2=[])(c3:List Int)(b3:Bool)(t3:List UInt8)(hc3:c3.length<=1048576)(hcb3:∀k∈c3,0<=k/\k<=1048576)(hn3:b3=true->c3=[]) :
  B4 Tryz.prog A0z [.ptr 0 0,.d (eI i)] [.cells [.d (.str nm),.arr 1 es.length,.arr 2 (A0 ks).length,.rs 3 4,.arr 4 (xL xs).length],.arr es 3 0 false,.arr (A0 ks) 1 0 kn,.rarr [[.arr 5 (A0 c0).length,.d (.str t0)],[.arr 6 (A0 c1).length,.d (.str t1)],[.arr 7 (A0 c2).length,.d (.str t2)],[.arr 8 (A0 c3).length,.d (.str t3)]] 2 false,.arr (xL xs) 7 0 xn,.arr (A0 c0) 1 0 b0,.arr (A0 c1) 1 0 b1,.arr (A0 c2) 1 0 b2,.arr (A0 c3) 1 0 b3]
   (λr os=>r=.tup []/\os=[.cells [.d (.str nm),.d (.sl (es.eraseIdx i)),.arr 2 (A0 ks).length,.rs 3 4,.arr 4 (xL xs).length],.arr (es.eraseIdx i++[M3]) 3 (es.length-1) false,.arr (A0 (ks.map λc=>B0 c i)) 1 0 kn,.rarr [[.arr 5 (A0 c0).length,.d (.str t0)],[.arr 6 (A0 c1).length,.d (.str t1)],[.arr 7 (A0 c2).length,.d (.str t2)],[.arr 8 (A0 c3).length,.d (.str t3)]] 2 false,.arr (xL (xs.map (E4 (I0 es.length i)))) 7 0 xn,.arr (A0 (c0.map λc=>B0 c i)) 1 0 b0,.arr (A0 (c1.map λc=>B0 c i)) 1 0 b1,.arr (A0 (c2.map λc=>B0 c i)) 1 0 b2,.arr (A0 (c3.map λc=>B0 c i)) 1 0 b3]):=by
 have hD:=fun {os:List AO} (ho:os[1]?=some (.arr es 3 0 false))=>A4x es hm i hi ho
 refine A4F.goX A6 rfl ?_
 repeat' first|refine st ?_|(with_reducible first|apply A5|apply A4)<;>intro _
 refine s0 4 7 rfl rfl ?_
 repeat' first|refine st ?_|(with_reducible first|apply A5|apply A4)<;>intro _
 refine I8 A6 A4P A4K (λ(k:Nat) (A:List (List D))=>[.arr 9 A.length,.d (eI k)]) (λk A=>[.cells [.d (.str nm),.arr 1 es.length,.arr 2 (A0 ks).length,.rs 3 4,.arr 4 (xL xs).length],.arr es 3 0 false,.arr (A0 ks) 1 0 kn,.rarr [[.arr 5 (A0 c0).length,.d (.str t0)],[.arr 6 (A0 c1).length,.d (.str t1)],[.arr 7 (A0 c2).length,.d (.str t2)],[.arr 8 (A0 c3).length,.d (.str t3)]] 2 false,.arr (xL xs) 7 0 xn,.arr (A0 c0) 1 0 b0,.arr (A0 c1) 1 0 b1,.arr (A0 c2) 1 0 b2,.arr (A0 c3) 1 0 b3,.arr A 7 0 A.isEmpty]) (λk A=>k<=es.length/\A=xL (I0 k i)) (λk A=>es.length-k) 0 [] rfl rfl rfl rfl (λ_ _ _=>⟨rfl,rfl⟩) rfl ⟨by omega,by simp[I0,xL]⟩ ?_
 repeat' first|refine st ?_|(with_reducible first|apply A5|apply A4)<;>intro _
 intro k A ⟨h4,h5⟩
 have hAl:A.length=k:=by rw[h5,I3,A0Q]
 have hAm:∀e∈A,e.length=7:=by rw[h5];exact N5 _
 by_cases hlt:k<es.length
 ·have hB:=W2 k i (by omega) (by omega)
  have hs:=A5T k i
  rw[<- h5] at hs
  obtain⟨b,hb⟩:∃b,b=B0 k i:=⟨_,rfl⟩
  rw[<- hb] at hB hs
  clear h5
  repeat' first|refine st ?_|((with_reducible first|apply A8|apply A7);(·exact hB))|(with_reducible first|apply A5|apply A4)<;>intro _
  refine⟨k+1,A++[[.int .i64 2,eI b,.int .i64 0,.int .i64 0,.str [],.str [],.nil]],?_,rfl,?_,by omega,by omega,hs⟩
  ·rfl
  ·rw[show(A++[[.int .i64 2,eI b,.int .i64 0,.int .i64 0,.str [],.str [],.nil]]).isEmpty=false by simp]
   first|rfl|skip
 ·have hke:k=es.length:=by omega
  rw[hke] at h5
  have hDc:=hD (os:=[.cells [.d (.str nm),.arr 1 es.length,.arr 2 (A0 ks).length,.rs 3 4,.arr 4 (xL xs).length],.arr es 3 0 false,.arr (A0 ks) 1 0 kn,.rarr [[.arr 5 (A0 c0).length,.d (.str t0)],[.arr 6 (A0 c1).length,.d (.str t1)],[.arr 7 (A0 c2).length,.d (.str t2)],[.arr 8 (A0 c3).length,.d (.str t3)]] 2 false,.arr (xL xs) 7 0 xn,.arr (A0 c0) 1 0 b0,.arr (A0 c1) 1 0 b1,.arr (A0 c2) 1 0 b2,.arr (A0 c3) 1 0 b3,.arr A 7 0 A.isEmpty]) rfl
  obtain⟨es',hes'⟩:∃e,e=es.eraseIdx i:=⟨_,rfl⟩
  rw[<- hes'] at hDc ⊢
  obtain⟨M0,hM0⟩:∃L,L=I0 es.length i:=⟨_,rfl⟩
  have hMl:M0.length<=1048576:=by rw[hM0,A0Q];exact hel
  rw[<- hM0] at h5 ⊢
  obtain⟨N0,hN0⟩:∃K,K=A0 (c0.map λc=>B0 c i):=⟨_,rfl⟩
  obtain⟨N1,hN1⟩:∃K,K=A0 (c1.map λc=>B0 c i):=⟨_,rfl⟩
  obtain⟨N2,hN2⟩:∃K,K=A0 (c2.map λc=>B0 c i):=⟨_,rfl⟩
  obtain⟨N3,hN3⟩:∃K,K=A0 (c3.map λc=>B0 c i):=⟨_,rfl⟩
  rw[<- hN0,<- hN1,<- hN2,<- hN3]
  repeat' first|(with_reducible apply I5)|refine st ?_|((with_reducible first|apply I7|apply D8);(·exact hDc);(try rintro _ _ ⟨rfl,rfl⟩))|((with_reducible apply J4);(·exact hDc))|((with_reducible apply I5);refine st ?_;(with_reducible apply J2);(·exact rfl);refine st ?_;(with_reducible apply D8);(·exact hDc);(try rintro _ _ ⟨rfl,rfl⟩))|(with_reducible first|apply A5|apply A4)<;>intro _
  refine F3 A6 A4Q A4L (λ(j:Nat)=>[.d (eI j)]) (λj=>[.cells [.d (.str nm),.d (.sl es'),.arr 2 (A0 ks).length,.rs 3 4,.arr 4 (xL xs).length],.arr (es'++[M3]) 3 (es.length-1) false,.arr (A0 (D6 ks (λc=>B0 c i) j)) 1 0 kn,.rarr [[.arr 5 (A0 c0).length,.d (.str t0)],[.arr 6 (A0 c1).length,.d (.str t1)],[.arr 7 (A0 c2).length,.d (.str t2)],[.arr 8 (A0 c3).length,.d (.str t3)]] 2 false,.arr (xL xs) 7 0 xn,.arr (A0 c0) 1 0 b0,.arr (A0 c1) 1 0 b1,.arr (A0 c2) 1 0 b2,.arr (A0 c3) 1 0 b3,.arr A 7 0 A.isEmpty]) (λj=>j<=ks.length) (λj=>ks.length-j) 0 rfl rfl rfl (by rw[o7];rfl) (λ_ _=>⟨rfl,rfl⟩) rfl (by omega) ?_
  repeat' first|refine st ?_|(with_reducible first|apply A5|apply A4)<;>intro _
  intro j h6
  have hKl:=o5 ks (λc=>B0 c i) j h6
  cases hy:ks[j]? with
  |some c=>
   obtain⟨hlt2,he2⟩:=B2.1 hy
   have hkf:kn=false:=by
    cases kn with
    |false=>rfl
    |true=>rw[hkn rfl] at hlt2;simp at hlt2
   subst hkf
   have hg:=J9 (o4 (λc=>B0 c i) hy)
   have hset:=o6 (λc=>B0 c i) hy
   obtain⟨cb1,cb2⟩:=hkb c (C2 hy)
   have hB:=W2 c i (by omega) (by omega)
   have hks:=B6 ks
   obtain⟨y,hyy⟩:∃y,y=B0 c i:=⟨_,rfl⟩
   rw[<- hyy] at hB hset
   have hset2:(A0 (D6 ks (λc=>B0 c i) j)).set j [eI y]=A0 (D6 ks (λc=>B0 c i) (j+1)):=by rw[m8,hset]
   have hml:=B6 (D6 ks (λc=>B0 c i) j)
   have hmm2:=D2 (D6 ks (λc=>B0 c i) j)
   obtain⟨X,hX⟩:∃X,X=A0 (D6 ks (λc=>B0 c i) j):=⟨_,rfl⟩
   rw[<- hX] at hg hset2 hml hmm2 ⊢
   repeat' first|refine st ?_|((with_reducible first|apply A8|apply A7);(·exact hB))|(with_reducible first|apply A5|apply A4)<;>intro _
   refine⟨j+1,rfl,rfl,?_,by omega,by omega⟩
   rw[show((j:Int)).toNat=j from S6 j,hset2]
  |none=>
   have hge:=D1.1 hy
   have hjk:j=ks.length:=by omega
   subst hjk
   rw[o3]
   have hks:=B6 ks
   obtain⟨K',hK'⟩:∃K,K=A0 (ks.map λc=>B0 c i):=⟨_,rfl⟩
   rw[<- hK']
   repeat' first|refine st ?_|(with_reducible first|apply A5|apply A4)<;>intro _
   refine A1z 5 ?_
   refine P4 A6 ?_
   repeat' first|refine st ?_|(with_reducible first|apply A5|apply A4)<;>intro _
   refine F3 A6 A0Z A0Y (λ(j:Nat)=>[.d (eI j)]) (λj=>[.cells [.d (.str nm),.d (.sl es'),.arr 2 (A0 ks).length,.rs 3 4,.arr 4 (xL xs).length],.arr (es'++[M3]) 3 (es.length-1) false,.arr K' 1 0 kn,.rarr [[.arr 5 (A0 c0).length,.d (.str t0)],[.arr 6 (A0 c1).length,.d (.str t1)],[.arr 7 (A0 c2).length,.d (.str t2)],[.arr 8 (A0 c3).length,.d (.str t3)]] 2 false,.arr (xL xs) 7 0 xn,.arr (A0 (D6 c0 (λc=>B0 c i) j)) 1 0 b0,.arr (A0 c1) 1 0 b1,.arr (A0 c2) 1 0 b2,.arr (A0 c3) 1 0 b3,.arr A 7 0 A.isEmpty,.cells [.arr 5 (A0 c0).length,.d (.str t0)]]) (λj=>j<=c0.length) (λj=>c0.length-j) 0 rfl rfl rfl (by rw[o7];rfl) (λ_ _=>⟨rfl,rfl⟩) rfl (by omega) ?_
   repeat' first|refine st ?_|(with_reducible first|apply A5|apply A4)<;>intro _
   intro j h6
   have hKl:=o5 c0 (λc=>B0 c i) j h6
   cases hy:c0[j]? with
   |some c=>
    obtain⟨hlt2,he2⟩:=B2.1 hy
    have hkf:b0=false:=by
     cases b0 with
     |false=>rfl
     |true=>rw[hn0 rfl] at hlt2;simp at hlt2
    subst hkf
    have hg:=J9 (o4 (λc=>B0 c i) hy)
    have hset:=o6 (λc=>B0 c i) hy
    obtain⟨cb1,cb2⟩:=hcb0 c (C2 hy)
    have hB:=W2 c i (by omega) (by omega)
    have hks:=B6 c0
    obtain⟨y,hyy⟩:∃y,y=B0 c i:=⟨_,rfl⟩
    rw[<- hyy] at hB hset
    have hset2:(A0 (D6 c0 (λc=>B0 c i) j)).set j [eI y]=A0 (D6 c0 (λc=>B0 c i) (j+1)):=by rw[m8,hset]
    have hml:=B6 (D6 c0 (λc=>B0 c i) j)
    have hmm2:=D2 (D6 c0 (λc=>B0 c i) j)
    obtain⟨X,hX⟩:∃X,X=A0 (D6 c0 (λc=>B0 c i) j):=⟨_,rfl⟩
    rw[<- hX] at hg hset2 hml hmm2 ⊢
    repeat' first|refine st ?_|((with_reducible first|apply A8|apply A7);(·exact hB))|(with_reducible first|apply A5|apply A4)<;>intro _
    refine⟨j+1,rfl,rfl,?_,by omega,by omega⟩
    rw[show((j:Int)).toNat=j from S6 j,hset2]
   |none=>
    have hge:=D1.1 hy
    have hjk:j=c0.length:=by omega
    subst hjk
    rw[o3]
    have hks:=B6 c0
    rw[<- hN0]
    repeat' first|refine st ?_|(with_reducible first|apply A5|apply A4)<;>intro _
    refine P4 A6 ?_
    repeat' first|refine st ?_|(with_reducible first|apply A5|apply A4)<;>intro _
    refine F3 A6 A0Z A0Y (λ(j:Nat)=>[.d (eI j)]) (λj=>[.cells [.d (.str nm),.d (.sl es'),.arr 2 (A0 ks).length,.rs 3 4,.arr 4 (xL xs).length],.arr (es'++[M3]) 3 (es.length-1) false,.arr K' 1 0 kn,.rarr [[.arr 5 (A0 c0).length,.d (.str t0)],[.arr 6 (A0 c1).length,.d (.str t1)],[.arr 7 (A0 c2).length,.d (.str t2)],[.arr 8 (A0 c3).length,.d (.str t3)]] 2 false,.arr (xL xs) 7 0 xn,.arr N0 1 0 b0,.arr (A0 (D6 c1 (λc=>B0 c i) j)) 1 0 b1,.arr (A0 c2) 1 0 b2,.arr (A0 c3) 1 0 b3,.arr A 7 0 A.isEmpty,.cells [.arr 5 (A0 c0).length,.d (.str t0)],.cells [.arr 6 (A0 c1).length,.d (.str t1)]]) (λj=>j<=c1.length) (λj=>c1.length-j) 0 rfl rfl rfl (by rw[o7];rfl) (λ_ _=>⟨rfl,rfl⟩) rfl (by omega) ?_
    repeat' first|refine st ?_|(with_reducible first|apply A5|apply A4)<;>intro _
    intro j h6
    have hKl:=o5 c1 (λc=>B0 c i) j h6
    cases hy:c1[j]? with
    |some c=>
     obtain⟨hlt2,he2⟩:=B2.1 hy
     have hkf:b1=false:=by
      cases b1 with
      |false=>rfl
      |true=>rw[hn1 rfl] at hlt2;simp at hlt2
     subst hkf
     have hg:=J9 (o4 (λc=>B0 c i) hy)
     have hset:=o6 (λc=>B0 c i) hy
     obtain⟨cb1,cb2⟩:=hcb1 c (C2 hy)
     have hB:=W2 c i (by omega) (by omega)
     have hks:=B6 c1
     obtain⟨y,hyy⟩:∃y,y=B0 c i:=⟨_,rfl⟩
     rw[<- hyy] at hB hset
     have hset2:(A0 (D6 c1 (λc=>B0 c i) j)).set j [eI y]=A0 (D6 c1 (λc=>B0 c i) (j+1)):=by rw[m8,hset]
     have hml:=B6 (D6 c1 (λc=>B0 c i) j)
     have hmm2:=D2 (D6 c1 (λc=>B0 c i) j)
     obtain⟨X,hX⟩:∃X,X=A0 (D6 c1 (λc=>B0 c i) j):=⟨_,rfl⟩
     rw[<- hX] at hg hset2 hml hmm2 ⊢
     repeat' first|refine st ?_|((with_reducible first|apply A8|apply A7);(·exact hB))|(with_reducible first|apply A5|apply A4)<;>intro _
     refine⟨j+1,rfl,rfl,?_,by omega,by omega⟩
     rw[show((j:Int)).toNat=j from S6 j,hset2]
    |none=>
     have hge:=D1.1 hy
     have hjk:j=c1.length:=by omega
     subst hjk
     rw[o3]
     have hks:=B6 c1
     rw[<- hN1]
     repeat' first|refine st ?_|(with_reducible first|apply A5|apply A4)<;>intro _
     refine P4 A6 ?_
     repeat' first|refine st ?_|(with_reducible first|apply A5|apply A4)<;>intro _
     refine F3 A6 A0Z A0Y (λ(j:Nat)=>[.d (eI j)]) (λj=>[.cells [.d (.str nm),.d (.sl es'),.arr 2 (A0 ks).length,.rs 3 4,.arr 4 (xL xs).length],.arr (es'++[M3]) 3 (es.length-1) false,.arr K' 1 0 kn,.rarr [[.arr 5 (A0 c0).length,.d (.str t0)],[.arr 6 (A0 c1).length,.d (.str t1)],[.arr 7 (A0 c2).length,.d (.str t2)],[.arr 8 (A0 c3).length,.d (.str t3)]] 2 false,.arr (xL xs) 7 0 xn,.arr N0 1 0 b0,.arr N1 1 0 b1,.arr (A0 (D6 c2 (λc=>B0 c i) j)) 1 0 b2,.arr (A0 c3) 1 0 b3,.arr A 7 0 A.isEmpty,.cells [.arr 5 (A0 c0).length,.d (.str t0)],.cells [.arr 6 (A0 c1).length,.d (.str t1)],.cells [.arr 7 (A0 c2).length,.d (.str t2)]]) (λj=>j<=c2.length) (λj=>c2.length-j) 0 rfl rfl rfl (by rw[o7];rfl) (λ_ _=>⟨rfl,rfl⟩) rfl (by omega) ?_
     repeat' first|refine st ?_|(with_reducible first|apply A5|apply A4)<;>intro _
     intro j h6
     have hKl:=o5 c2 (λc=>B0 c i) j h6
     cases hy:c2[j]? with
     |some c=>
      obtain⟨hlt2,he2⟩:=B2.1 hy
      have hkf:b2=false:=by
       cases b2 with
       |false=>rfl
       |true=>rw[hn2 rfl] at hlt2;simp at hlt2
      subst hkf
      have hg:=J9 (o4 (λc=>B0 c i) hy)
      have hset:=o6 (λc=>B0 c i) hy
      obtain⟨cb1,cb2⟩:=hcb2 c (C2 hy)
      have hB:=W2 c i (by omega) (by omega)
      have hks:=B6 c2
      obtain⟨y,hyy⟩:∃y,y=B0 c i:=⟨_,rfl⟩
      rw[<- hyy] at hB hset
      have hset2:(A0 (D6 c2 (λc=>B0 c i) j)).set j [eI y]=A0 (D6 c2 (λc=>B0 c i) (j+1)):=by rw[m8,hset]
      have hml:=B6 (D6 c2 (λc=>B0 c i) j)
      have hmm2:=D2 (D6 c2 (λc=>B0 c i) j)
      obtain⟨X,hX⟩:∃X,X=A0 (D6 c2 (λc=>B0 c i) j):=⟨_,rfl⟩
      rw[<- hX] at hg hset2 hml hmm2 ⊢
      repeat' first|refine st ?_|((with_reducible first|apply A8|apply A7);(·exact hB))|(with_reducible first|apply A5|apply A4)<;>intro _
      refine⟨j+1,rfl,rfl,?_,by omega,by omega⟩
      rw[show((j:Int)).toNat=j from S6 j,hset2]
     |none=>
      have hge:=D1.1 hy
      have hjk:j=c2.length:=by omega
      subst hjk
      rw[o3]
      have hks:=B6 c2
      rw[<- hN2]
      repeat' first|refine st ?_|(with_reducible first|apply A5|apply A4)<;>intro _
      refine P4 A6 ?_
      repeat' first|refine st ?_|(with_reducible first|apply A5|apply A4)<;>intro _
      refine F3 A6 A0Z A0Y (λ(j:Nat)=>[.d (eI j)]) (λj=>[.cells [.d (.str nm),.d (.sl es'),.arr 2 (A0 ks).length,.rs 3 4,.arr 4 (xL xs).length],.arr (es'++[M3]) 3 (es.length-1) false,.arr K' 1 0 kn,.rarr [[.arr 5 (A0 c0).length,.d (.str t0)],[.arr 6 (A0 c1).length,.d (.str t1)],[.arr 7 (A0 c2).length,.d (.str t2)],[.arr 8 (A0 c3).length,.d (.str t3)]] 2 false,.arr (xL xs) 7 0 xn,.arr N0 1 0 b0,.arr N1 1 0 b1,.arr N2 1 0 b2,.arr (A0 (D6 c3 (λc=>B0 c i) j)) 1 0 b3,.arr A 7 0 A.isEmpty,.cells [.arr 5 (A0 c0).length,.d (.str t0)],.cells [.arr 6 (A0 c1).length,.d (.str t1)],.cells [.arr 7 (A0 c2).length,.d (.str t2)],.cells [.arr 8 (A0 c3).length,.d (.str t3)]]) (λj=>j<=c3.length) (λj=>c3.length-j) 0 rfl rfl rfl (by rw[o7];rfl) (λ_ _=>⟨rfl,rfl⟩) rfl (by omega) ?_
      repeat' first|refine st ?_|(with_reducible first|apply A5|apply A4)<;>intro _
      intro j h6
      have hKl:=o5 c3 (λc=>B0 c i) j h6
      cases hy:c3[j]? with
      |some c=>
       obtain⟨hlt2,he2⟩:=B2.1 hy
       have hkf:b3=false:=by
        cases b3 with
        |false=>rfl
        |true=>rw[hn3 rfl] at hlt2;simp at hlt2
       subst hkf
       have hg:=J9 (o4 (λc=>B0 c i) hy)
       have hset:=o6 (λc=>B0 c i) hy
       obtain⟨cb1,cb2⟩:=hcb3 c (C2 hy)
       have hB:=W2 c i (by omega) (by omega)
       have hks:=B6 c3
       obtain⟨y,hyy⟩:∃y,y=B0 c i:=⟨_,rfl⟩
       rw[<- hyy] at hB hset
       have hset2:(A0 (D6 c3 (λc=>B0 c i) j)).set j [eI y]=A0 (D6 c3 (λc=>B0 c i) (j+1)):=by rw[m8,hset]
       have hml:=B6 (D6 c3 (λc=>B0 c i) j)
       have hmm2:=D2 (D6 c3 (λc=>B0 c i) j)
       obtain⟨X,hX⟩:∃X,X=A0 (D6 c3 (λc=>B0 c i) j):=⟨_,rfl⟩
       rw[<- hX] at hg hset2 hml hmm2 ⊢
       repeat' first|refine st ?_|((with_reducible first|apply A8|apply A7);(·exact hB))|(with_reducible first|apply A5|apply A4)<;>intro _
       refine⟨j+1,rfl,rfl,?_,by omega,by omega⟩
       rw[show((j:Int)).toNat=j from S6 j,hset2]
      |none=>
       have hge:=D1.1 hy
       have hjk:j=c3.length:=by omega
       subst hjk
       rw[o3]
       have hks:=B6 c3
       rw[<- hN3]
       repeat' first|refine st ?_|(with_reducible first|apply A5|apply A4)<;>intro _
       refine P4 A6 ?_
       repeat' first|refine st ?_|(with_reducible first|apply A5|apply A4)<;>intro _
       have hAe:A.isEmpty=false:=by cases A with
        |nil=>simp at hAl;omega
        |cons a l=>rfl
       rw[hAe]
       have hXl:=I3 xs
       refine A2D 4 (id:=9) (len:=A.length) (sz:=7) (frz:=0) (nl:=false) (es:=A) rfl rfl rfl ?_
       rw[if_neg (by decide:¬(false=true))]
       repeat' first|refine st ?_|(with_reducible first|apply A5|apply A4)<;>intro _
       refine F3 A6 A4R A4M (λ(q:Nat)=>[.d (eI q)]) (λq=>[.cells [.d (.str nm),.d (.sl es'),.arr 2 (A0 ks).length,.rs 3 4,.arr 4 (xL xs).length],.arr (es'++[M3]) 3 (es.length-1) false,.arr K' 1 0 kn,.rarr [[.arr 5 (A0 c0).length,.d (.str t0)],[.arr 6 (A0 c1).length,.d (.str t1)],[.arr 7 (A0 c2).length,.d (.str t2)],[.arr 8 (A0 c3).length,.d (.str t3)]] 2 false,.arr (xL (L6 xs (E4 M0) q)) 7 0 xn,.arr N0 1 0 b0,.arr N1 1 0 b1,.arr N2 1 0 b2,.arr N3 1 0 b3,.arr A 7 A.length false,.cells [.arr 5 (A0 c0).length,.d (.str t0)],.cells [.arr 6 (A0 c1).length,.d (.str t1)],.cells [.arr 7 (A0 c2).length,.d (.str t2)],.cells [.arr 8 (A0 c3).length,.d (.str t3)]]) (λq=>q<=xs.length) (λq=>xs.length-q) 0 rfl rfl rfl (by rw[A5R];rfl) (λ_ _=>⟨rfl,rfl⟩) rfl (by omega) ?_
       repeat' first|refine st ?_|(with_reducible first|apply A5|apply A4)<;>intro _
       intro q h7
       have hMb:∀a∈M0,a.bk<=1048576:=by
        intro a ha
        rw[hM0] at ha
        obtain⟨b,_,rfl⟩:=F2.1 ha
        unfold mvE Ex.bk
        rw[Ex.ds_mk]
        exact P2 rfl
       have hXql:=A5P xs (E4 M0) q h7
       cases hx:xs[q]? with
       |some x=>
        obtain⟨hlt3,he3⟩:=B2.1 hx
        have hxf:xn=false:=by
         cases xn with
         |false=>rfl
         |true=>rw[hxn rfl] at hlt3;simp at hlt3
        subst hxf
        have hg:=A5O (E4 M0) hx
        have hset:=A5Q (E4 M0) hx
        have hS:=A4r M0 hMl hMb (.sl A) (by rw[h5];exact L4) x (hxb x (C2 hx))
        have hq1:=I3 (L6 xs (E4 M0) q)
        have hq2:=N5 (L6 xs (E4 M0) q)
        obtain⟨z,hz⟩:∃z,z=E4 M0 x:=⟨_,rfl⟩
        rw[<- hz] at hS hset
        have hset2:(xL (L6 xs (E4 M0) q)).set q z.ds=xL (L6 xs (E4 M0) (q+1)):=by rw[<- hset];unfold xL;rw[W4]
        obtain⟨o1,n1,v1,m1,l1,a1⟩:=x
        obtain⟨o2,n2,v2,m2,l2,a2⟩:=z
        have hg:=m5 _ _ _ _ _ _ _ hg
        rw[Ex.av_mk,Ex.av_mk] at hS
        rw[Ex.ds_mk] at hset2
        obtain⟨X,hX⟩:∃X,X=xL (L6 xs (E4 M0) q):=⟨_,rfl⟩
        rw[<- hX] at hg hset2 hq1 hq2 ⊢
        repeat' first|refine st ?_|((with_reducible first|apply A8|apply A7);(·exact hS))|(with_reducible first|apply A5|apply A4)<;>intro _
        refine⟨q+1,rfl,rfl,?_,by omega,by omega⟩
        rw[show((q:Int)).toNat=q from S6 q,hset2]
       |none=>
        have hge:=D1.1 hx
        have hqk:q=xs.length:=by omega
        subst hqk
        rw[A5N]
        repeat' first|refine st ?_|(with_reducible first|apply A5|apply A4)<;>intro _
        exact⟨rfl,rfl⟩
theorem C0F(T0 T1 T2 T3 T4 T7:AO)(nm:List UInt8)(es:List (List D))(hm:∀e∈es,e.length=3)(i:Nat)(hi:i<es.length)(hel:es.length<=1048576)(ks:List Int)(hkb:∀k∈ks,0<=k/\k<=1048576)(hkl:ks.length<=1048576)(kn:Bool)(hkn:kn=true->ks=[])(xs:List Ex)(hxl:xs.length<=1048576)(hxb:∀e∈xs,e.bk<=1048576)(xn:Bool)(hxn:xn=true->xs=[])(c0:List Int)(b0:Bool)(t0:List UInt8)(hc0:c0.length<=1048576)(hcb0:∀k∈c0,0<=k/\k<=1048576)(hn0:b0=true->c0=[])(c1:List Int)(b1:Bool)(t1:List UInt8)(hc1:c1.length<=1048576)(hcb1:∀k∈c1,0<=k/\k<=1048576)(hn1:b1=true->c1=[])(c2:List Int)(b2:Bool)(t2:List UInt8)(hc2:c2.length<=1048576)(hcb2:∀k∈c2,0<=k/\k<=1048576)(hn2:b2=true->c2=[])(c3:List Int)(b3:Bool)(t3:List UInt8)(hc3:c3.length<=1048576)(hcb3:∀k∈c3,0<=k/\k<=1048576)(hn3:b3=true->c3=[]) :
  B4 Tryz.prog A0z [.ptr 14 0,.d (eI i)] [T0,T1,T2,T3,T4,.arr es 3 0 false,.arr (A0 ks) 1 0 kn,T7,.rarr [[.arr 10 (A0 c0).length,.d (.str t0)],[.arr 11 (A0 c1).length,.d (.str t1)],[.arr 12 (A0 c2).length,.d (.str t2)],[.arr 13 (A0 c3).length,.d (.str t3)]] 2 false,.arr (xL xs) 7 0 xn,.arr (A0 c0) 1 0 b0,.arr (A0 c1) 1 0 b1,.arr (A0 c2) 1 0 b2,.arr (A0 c3) 1 0 b3,.cells [.d (.str nm),.arr 5 es.length,.arr 6 (A0 ks).length,.rs 8 4,.arr 9 (xL xs).length]]
   (λr os=>r=.tup []/\os=[T0,T1,T2,T3,T4,.arr (es.eraseIdx i++[M3]) 3 (es.length-1) false,.arr (A0 (ks.map λc=>B0 c i)) 1 0 kn,T7,.rarr [[.arr 10 (A0 c0).length,.d (.str t0)],[.arr 11 (A0 c1).length,.d (.str t1)],[.arr 12 (A0 c2).length,.d (.str t2)],[.arr 13 (A0 c3).length,.d (.str t3)]] 2 false,.arr (xL (xs.map (E4 (I0 es.length i)))) 7 0 xn,.arr (A0 (c0.map λc=>B0 c i)) 1 0 b0,.arr (A0 (c1.map λc=>B0 c i)) 1 0 b1,.arr (A0 (c2.map λc=>B0 c i)) 1 0 b2,.arr (A0 (c3.map λc=>B0 c i)) 1 0 b3,.cells [.d (.str nm),.d (.sl (es.eraseIdx i)),.arr 6 (A0 ks).length,.rs 8 4,.arr 9 (xL xs).length]]):=by
 have:=B4.frame (K:=λr os=>r=.tup []/\os=[T0,T1,T2,T3,T4,.arr (es.eraseIdx i++[M3]) 3 (es.length-1) false,.arr (A0 (ks.map λc=>B0 c i)) 1 0 kn,T7,.rarr [[.arr 10 (A0 c0).length,.d (.str t0)],[.arr 11 (A0 c1).length,.d (.str t1)],[.arr 12 (A0 c2).length,.d (.str t2)],[.arr 13 (A0 c3).length,.d (.str t3)]] 2 false,.arr (xL (xs.map (E4 (I0 es.length i)))) 7 0 xn,.arr (A0 (c0.map λc=>B0 c i)) 1 0 b0,.arr (A0 (c1.map λc=>B0 c i)) 1 0 b1,.arr (A0 (c2.map λc=>B0 c i)) 1 0 b2,.arr (A0 (c3.map λc=>B0 c i)) 1 0 b3,.cells [.d (.str nm),.d (.sl (es.eraseIdx i)),.arr 6 (A0 ks).length,.rs 8 4,.arr 9 (xL xs).length]]) (C0E nm es hm i hi hel ks hkb hkl kn hkn xs hxl hxb xn hxn c0 b0 t0 hc0 hcb0 hn0 c1 b1 t1 hc1 hcb1 hn1 c2 b2 t2 hc2 hcb2 hn2 c3 b3 t3 hc3 hcb3 hn3) [14,5,6,8,9,10,11,12,13]
  [T0,T1,T2,T3,T4,.arr es 3 0 false,.arr (A0 ks) 1 0 kn,T7,.rarr [[.arr 10 (A0 c0).length,.d (.str t0)],[.arr 11 (A0 c1).length,.d (.str t1)],[.arr 12 (A0 c2).length,.d (.str t2)],[.arr 13 (A0 c3).length,.d (.str t3)]] 2 false,.arr (xL xs) 7 0 xn,.arr (A0 c0) 1 0 b0,.arr (A0 c1) 1 0 b1,.arr (A0 c2) 1 0 b2,.arr (A0 c3) 1 0 b3,.cells [.d (.str nm),.arr 5 es.length,.arr 6 (A0 ks).length,.rs 8 4,.arr 9 (xL xs).length]] rfl (by decide) (λi o h=>by
   match i,h with
   |0,h=>cases h;rfl
   |1,h=>cases h;rfl
   |2,h=>cases h;rfl
   |3,h=>cases h;rfl
   |4,h=>cases h;rfl
   |5,h=>cases h;rfl
   |6,h=>cases h;rfl
   |7,h=>cases h;rfl
   |8,h=>cases h;rfl
   |i+9,h=>simp at h) (λa ha=>by
    simp only[I9,s8,or_false] at ha
    rcases ha with rfl|rfl<;>simp[AV.bnd2,AV.bnd1]) (λo ho=>by
    simp only[I9,s8,or_false] at ho
    rcases ho with rfl|rfl|rfl|rfl|rfl|rfl|rfl|rfl|rfl
    ·exact M7 rfl
    ·exact M7 rfl
    ·exact M7 rfl
    ·exact M7 rfl
    ·exact M7 rfl
    ·exact M7 rfl
    ·exact M7 rfl
    ·exact M7 rfl
    ·exact M7 rfl
    ) (by
   rintro r bs' ⟨rfl,rfl⟩
   exact⟨rfl,rfl⟩)
 exact this
end Go.Proofs
end
section
set_option maxHeartbeats 8000000
namespace Go.Proofs
open Go.Bi
theorem C0l(t:Tb)(dc dk df dx:D)(h:N4 t dc dk df dx)(c:Ch)(hc:J1 c)(hq:E5 t c=0)(g0 g1 g2 g3:Fo)(hfs:t.fs=[g0,g1,g2,g3])(hk:c.k=1) :
  Pure Tryz.prog R7 [eT t.nm dc dk df dx,c.av] (.tup [eT t.nm (.sl (B3 (t.cs++[c.co]))) (C0 (A9 dk) (A0 t.ks)) (dF t.fs) (C0 (xL (t.xs.map (B8 0))).isEmpty (xL (t.xs.map (B8 0)))),.d (eI 0)]):=by
 have hC:=U7 t dc dk df dx h c hc
 rw[hq] at hC
 have hF:=T8 t.nm t.cs h.hl dc dk df dx h.dc c.nm
 have hl:=h.hl
 have hdf:=h.df
 have hfc:=h.hfc
 rw[hfs] at hdf hfc
 have hdf2:df=.sl (R4 [⟨g0.d,A0 g0.cs,A9 g0.d,g0.tb⟩,⟨g1.d,A0 g1.cs,A9 g1.d,g1.tb⟩,⟨g2.d,A0 g2.cs,A9 g2.d,g2.tb⟩,⟨g3.d,A0 g3.cs,A9 g3.d,g3.tb⟩]):=by
  rcases hdf with ⟨_,h2⟩|h2
  ·cases h2
  ·exact h2
 have hf0:(Fi.mk g0.d (A0 g0.cs) (A9 g0.d) g0.tb).ok:=H5 _ (by rw[B6];have:=(hfc g0 (by simp)).1;omega) (D2 _) g0.d g0.sld
 have hf1:(Fi.mk g1.d (A0 g1.cs) (A9 g1.d) g1.tb).ok:=H5 _ (by rw[B6];have:=(hfc g1 (by simp)).1;omega) (D2 _) g1.d g1.sld
 have hf2:(Fi.mk g2.d (A0 g2.cs) (A9 g2.d) g2.tb).ok:=H5 _ (by rw[B6];have:=(hfc g2 (by simp)).1;omega) (D2 _) g2.d g2.sld
 have hf3:(Fi.mk g3.d (A0 g3.cs) (A9 g3.d) g3.tb).ok:=H5 _ (by rw[B6];have:=(hfc g3 (by simp)).1;omega) (D2 _) g3.d g3.sld
 have hK:=A4p t.nm dc dk df dx (B3 t.cs) (A0 t.ks) (A9 dc) (A9 dk) (V3 _ (by rw[G5];omega) (I1 _) dc h.dc) (H5 _ (by rw[B6];have:=h.hk;omega) (D2 _) dk h.dk) _ _ _ _ hf0 hf1 hf2 hf3 hdf2 t.xs h.hxb h.hxs h.dx
 have hcl:=G5 t.cs
 have q0:g0.d=C0 (A9 g0.d) (A0 g0.cs):=(O8 g0.sld).symm
 have q1:g1.d=C0 (A9 g1.d) (A0 g1.cs):=(O8 g1.sld).symm
 have q2:g2.d=C0 (A9 g2.d) (A0 g2.cs):=(O8 g2.sld).symm
 have q3:g3.d=C0 (A9 g3.d) (A0 g3.cs):=(O8 g3.sld).symm
 have e1:B3 (t.cs++[c.co])=B3 t.cs++[c.co.ds]:=by simp[B3]
 rw[e1]
 obtain⟨k,nm,to,⟨cn,ck,cl⟩,⟨vk,vn,vs⟩⟩:=c
 dsimp only at hk
 subst hk
 obtain⟨f,hf⟩:∃f,f=E8 nm t.cs:=⟨_,rfl⟩
 have hF:Bi.Pure Tryz.prog U8 [eT t.nm dc dk df dx,.d (.str nm)] (.d (eI f)):=by rw[hf];exact hF
 rw[show dF t.fs=C0 false (F8 [g0,g1,g2,g3]) by rw[hfs];rfl]
 generalize B3 t.cs=Cs at hK hcl q0 q1 q2 q3 ⊢
 generalize A0 t.ks=Ks at hK hcl q0 q1 q2 q3 ⊢
 generalize xL (t.xs.map (B8 0))=Xs at hK hcl q0 q1 q2 q3 ⊢
 generalize A9 dk=b2 at hK hcl q0 q1 q2 q3 ⊢
 generalize A9 dc=b1 at hK hcl q0 q1 q2 q3 ⊢
 generalize A0 g0.cs=G0 at hK hcl q0 q1 q2 q3 ⊢
 generalize A9 g0.d=n0 at hK hcl q0 q1 q2 q3 ⊢
 generalize A0 g1.cs=G1 at hK hcl q0 q1 q2 q3 ⊢
 generalize A9 g1.d=n1 at hK hcl q0 q1 q2 q3 ⊢
 generalize A0 g2.cs=G2 at hK hcl q0 q1 q2 q3 ⊢
 generalize A9 g2.d=n2 at hK hcl q0 q1 q2 q3 ⊢
 generalize A0 g3.cs=G3 at hK hcl q0 q1 q2 q3 ⊢
 generalize A9 g3.d=n3 at hK hcl q0 q1 q2 q3 ⊢
 obtain⟨u0,hu0⟩:∃x,x=g0.tb:=⟨_,rfl⟩
 rw[<- hu0] at hK
 obtain⟨u1,hu1⟩:∃x,x=g1.tb:=⟨_,rfl⟩
 rw[<- hu1] at hK
 obtain⟨u2,hu2⟩:∃x,x=g2.tb:=⟨_,rfl⟩
 rw[<- hu2] at hK
 obtain⟨u3,hu3⟩:∃x,x=g3.tb:=⟨_,rfl⟩
 rw[<- hu3] at hK
 refine B4.deepP (Q:=λr os=>r=.tup [.agg [.d (.str t.nm),.arr 5 (Cs++[[.str cn,eI ck,.bool cl]]).length,.arr 6 Ks.length,.rs 8 4,.arr 9 Xs.length],.d (eI 0)]/\os[5]?=some (.arr (Cs++[[.str cn,eI ck,.bool cl]]) 3 0 false)/\os[6]?=some (.arr Ks 1 0 b2)/\os[8]?=some (.rarr [[.arr 10 G0.length,.d (.str u0)],[.arr 11 G1.length,.d (.str u1)],[.arr 12 G2.length,.d (.str u2)],[.arr 13 G3.length,.d (.str u3)]] 2 false)/\os[9]?=some (.arr Xs 7 0 Xs.isEmpty)/\os[10]?=some (.arr G0 1 0 n0)/\os[11]?=some (.arr G1 1 0 n1)/\os[12]?=some (.arr G2 1 0 n2)/\os[13]?=some (.arr G3 1 0 n3)) ?_ ?_
 ·refine V4.goO2 A6 rfl ?_
  repeat' first|refine st ?_|((with_reducible first|apply A8|apply A7);(·first|exact hC|exact hF))|((with_reducible first|apply I7|apply D8);(·exact hK);(try rintro _ _ ⟨rfl,rfl⟩))|((with_reducible apply J4);(·exact hK))|((with_reducible apply I5);refine st ?_;(with_reducible apply J2);(·exact rfl);refine st ?_;(with_reducible apply D8);(·exact hK);(try rintro _ _ ⟨rfl,rfl⟩))|(with_reducible first|apply A5|apply A4)<;>intro _
  exact⟨rfl,rfl,rfl,rfl,rfl,rfl,rfl,rfl,rfl⟩
 ·rintro r os ⟨rfl,hx0,hx1,hx2,hx3,hx4,hx5,hx6,hx7⟩
  refine V6 (rows:=[[.arr 10 G0.length,.d (.str u0)],[.arr 11 G1.length,.d (.str u1)],[.arr 12 G2.length,.d (.str u2)],[.arr 13 G3.length,.d (.str u3)]]) (fs:=[g0,g1,g2,g3]) (.inl (.inr ⟨5,_,3,0,false,rfl,hx0,rfl⟩)) hx1 hx2 hx3 rfl (λi e g he hg=>?_)
  match i,he,hg with
  |0,he,hg=>cases he;cases hg;exact⟨10,_,n0,by rw[hu0],hx4,q0⟩
  |1,he,hg=>cases he;cases hg;exact⟨11,_,n1,by rw[hu1],hx5,q1⟩
  |2,he,hg=>cases he;cases hg;exact⟨12,_,n2,by rw[hu2],hx6,q2⟩
  |3,he,hg=>cases he;cases hg;exact⟨13,_,n3,by rw[hu3],hx7,q3⟩
  |i+4,he,hg=>simp at he
theorem C0n(t:Tb)(dc dk df dx:D)(h:N4 t dc dk df dx)(c:Ch)(hc:J1 c)(hq:E5 t c=0)(g0 g1 g2 g3:Fo)(hfs:t.fs=[g0,g1,g2,g3])(hk:c.k=3)(i:Nat)(hi:E8 c.nm t.cs=i)(co:Co)(hco:t.cs[i]?=some co)(hdc:dc=.sl (B3 t.cs)) :
  Pure Tryz.prog R7 [eT t.nm dc dk df dx,c.av] (.tup [eT t.nm (.sl (B3 (t.cs.set i ⟨c.to,co.k,co.nl⟩))) (C0 (A9 dk) (A0 t.ks)) (dF t.fs) (C0 (xL (t.xs.map (B8 0))).isEmpty (xL (t.xs.map (B8 0)))),.d (eI 0)]):=by
 have hC:=U7 t dc dk df dx h c hc
 rw[hq] at hC
 have hF:=T8 t.nm t.cs h.hl dc dk df dx h.dc c.nm
 have hl:=h.hl
 have hdf:=h.df
 have hfc:=h.hfc
 rw[hfs] at hdf hfc
 rw[hi] at hF
 have hdf2:df=.sl (R4 [⟨g0.d,A0 g0.cs,A9 g0.d,g0.tb⟩,⟨g1.d,A0 g1.cs,A9 g1.d,g1.tb⟩,⟨g2.d,A0 g2.cs,A9 g2.d,g2.tb⟩,⟨g3.d,A0 g3.cs,A9 g3.d,g3.tb⟩]):=by
  rcases hdf with ⟨_,h2⟩|h2
  ·cases h2
  ·exact h2
 have hf0:(Fi.mk g0.d (A0 g0.cs) (A9 g0.d) g0.tb).ok:=H5 _ (by rw[B6];have:=(hfc g0 (by simp)).1;omega) (D2 _) g0.d g0.sld
 have hf1:(Fi.mk g1.d (A0 g1.cs) (A9 g1.d) g1.tb).ok:=H5 _ (by rw[B6];have:=(hfc g1 (by simp)).1;omega) (D2 _) g1.d g1.sld
 have hf2:(Fi.mk g2.d (A0 g2.cs) (A9 g2.d) g2.tb).ok:=H5 _ (by rw[B6];have:=(hfc g2 (by simp)).1;omega) (D2 _) g2.d g2.sld
 have hf3:(Fi.mk g3.d (A0 g3.cs) (A9 g3.d) g3.tb).ok:=H5 _ (by rw[B6];have:=(hfc g3 (by simp)).1;omega) (D2 _) g3.d g3.sld
 have hK:=A4p t.nm dc dk df dx (B3 t.cs) (A0 t.ks) (A9 dc) (A9 dk) (V3 _ (by rw[G5];omega) (I1 _) dc h.dc) (H5 _ (by rw[B6];have:=h.hk;omega) (D2 _) dk h.dk) _ _ _ _ hf0 hf1 hf2 hf3 hdf2 t.xs h.hxb h.hxs h.dx
 have hcl:=G5 t.cs
 rw[show A9 dc=false by rw[hdc];rfl] at hK
 have q0:g0.d=C0 (A9 g0.d) (A0 g0.cs):=(O8 g0.sld).symm
 have q1:g1.d=C0 (A9 g1.d) (A0 g1.cs):=(O8 g1.sld).symm
 have q2:g2.d=C0 (A9 g2.d) (A0 g2.cs):=(O8 g2.sld).symm
 have q3:g3.d=C0 (A9 g3.d) (A0 g3.cs):=(O8 g3.sld).symm
 have hg:(B3 t.cs)[((i:Nat):Int).toNat]?=some [.str co.nm,eI co.k,.bool co.nl]:=L5 hco
 have hg2:(B3 t.cs)[i]?=some [.str co.nm,eI co.k,.bool co.nl]:=L5 hco
 have hmm:=I1 t.cs
 have hilt:i<(B3 t.cs).length:=by rw[hcl];exact(B2.1 hco).1
 have e1:B3 (t.cs.set i ⟨c.to,co.k,co.nl⟩)=(B3 t.cs).set i [.str c.to,eI co.k,.bool co.nl]:=by unfold B3;rw[W4]
 rw[e1]
 obtain⟨k,nm,to,⟨cn,ck,cl⟩,⟨vk,vn,vs⟩⟩:=c
 dsimp only at hk
 subst hk
 have hF:Bi.Pure Tryz.prog U8 [eT t.nm dc dk df dx,.d (.str nm)] (.d (eI i)):=hF
 rw[show dF t.fs=C0 false (F8 [g0,g1,g2,g3]) by rw[hfs];rfl]
 generalize B3 t.cs=Cs at hK hcl hg hg2 hmm hilt q0 q1 q2 q3 ⊢
 generalize A0 t.ks=Ks at hK hcl hg hg2 hmm hilt q0 q1 q2 q3 ⊢
 generalize xL (t.xs.map (B8 0))=Xs at hK hcl hg hg2 hmm hilt q0 q1 q2 q3 ⊢
 generalize A9 dk=b2 at hK hcl hg hg2 hmm hilt q0 q1 q2 q3 ⊢
 generalize A0 g0.cs=G0 at hK hcl hg hg2 hmm hilt q0 q1 q2 q3 ⊢
 generalize A9 g0.d=n0 at hK hcl hg hg2 hmm hilt q0 q1 q2 q3 ⊢
 generalize A0 g1.cs=G1 at hK hcl hg hg2 hmm hilt q0 q1 q2 q3 ⊢
 generalize A9 g1.d=n1 at hK hcl hg hg2 hmm hilt q0 q1 q2 q3 ⊢
 generalize A0 g2.cs=G2 at hK hcl hg hg2 hmm hilt q0 q1 q2 q3 ⊢
 generalize A9 g2.d=n2 at hK hcl hg hg2 hmm hilt q0 q1 q2 q3 ⊢
 generalize A0 g3.cs=G3 at hK hcl hg hg2 hmm hilt q0 q1 q2 q3 ⊢
 generalize A9 g3.d=n3 at hK hcl hg hg2 hmm hilt q0 q1 q2 q3 ⊢
 obtain⟨u0,hu0⟩:∃x,x=g0.tb:=⟨_,rfl⟩
 rw[<- hu0] at hK
 obtain⟨u1,hu1⟩:∃x,x=g1.tb:=⟨_,rfl⟩
 rw[<- hu1] at hK
 obtain⟨u2,hu2⟩:∃x,x=g2.tb:=⟨_,rfl⟩
 rw[<- hu2] at hK
 obtain⟨u3,hu3⟩:∃x,x=g3.tb:=⟨_,rfl⟩
 rw[<- hu3] at hK
 refine B4.deepP (Q:=λr os=>r=.tup [.agg [.d (.str t.nm),.arr 5 (Cs.set i [.str to,eI co.k,.bool co.nl]).length,.arr 6 Ks.length,.rs 8 4,.arr 9 Xs.length],.d (eI 0)]/\os[5]?=some (.arr (Cs.set i [.str to,eI co.k,.bool co.nl]) 3 0 false)/\os[6]?=some (.arr Ks 1 0 b2)/\os[8]?=some (.rarr [[.arr 10 G0.length,.d (.str u0)],[.arr 11 G1.length,.d (.str u1)],[.arr 12 G2.length,.d (.str u2)],[.arr 13 G3.length,.d (.str u3)]] 2 false)/\os[9]?=some (.arr Xs 7 0 Xs.isEmpty)/\os[10]?=some (.arr G0 1 0 n0)/\os[11]?=some (.arr G1 1 0 n1)/\os[12]?=some (.arr G2 1 0 n2)/\os[13]?=some (.arr G3 1 0 n3)) ?_ ?_
 ·refine V4.goO2 A6 rfl ?_
  rw[Y4]
  repeat' first|refine st ?_|((with_reducible first|apply A8|apply A7);(·first|exact hC|exact hF))|((with_reducible first|apply I7|apply D8);(·exact hK);(try rintro _ _ ⟨rfl,rfl⟩))|((with_reducible apply J4);(·exact hK))|((with_reducible apply I5);refine st ?_;(with_reducible apply J2);(·exact rfl);refine st ?_;(with_reducible apply D8);(·exact hK);(try rintro _ _ ⟨rfl,rfl⟩))|(with_reducible first|apply A5|apply A4)<;>intro _
  exact⟨rfl,rfl,rfl,rfl,rfl,rfl,rfl,rfl,rfl⟩
 ·rintro r os ⟨rfl,hx0,hx1,hx2,hx3,hx4,hx5,hx6,hx7⟩
  refine V6 (rows:=[[.arr 10 G0.length,.d (.str u0)],[.arr 11 G1.length,.d (.str u1)],[.arr 12 G2.length,.d (.str u2)],[.arr 13 G3.length,.d (.str u3)]]) (fs:=[g0,g1,g2,g3]) (.inl (.inr ⟨5,_,3,0,false,rfl,hx0,rfl⟩)) hx1 hx2 hx3 rfl (λi e g he hg=>?_)
  match i,he,hg with
  |0,he,hg=>cases he;cases hg;exact⟨10,_,n0,by rw[hu0],hx4,q0⟩
  |1,he,hg=>cases he;cases hg;exact⟨11,_,n1,by rw[hu1],hx5,q1⟩
  |2,he,hg=>cases he;cases hg;exact⟨12,_,n2,by rw[hu2],hx6,q2⟩
  |3,he,hg=>cases he;cases hg;exact⟨13,_,n3,by rw[hu3],hx7,q3⟩
  |i+4,he,hg=>simp at he
theorem C0o(t:Tb)(dc dk df dx:D)(h:N4 t dc dk df dx)(c:Ch)(hc:J1 c)(hq:E5 t c=0)(g0 g1 g2 g3:Fo)(hfs:t.fs=[g0,g1,g2,g3])(hk:c.k=4)(i:Nat)(hi:E8 c.nm t.cs=i)(co:Co)(hco:t.cs[i]?=some co)(hdc:dc=.sl (B3 t.cs)) :
  Pure Tryz.prog R7 [eT t.nm dc dk df dx,c.av] (.tup [eT t.nm (.sl (B3 (t.cs.set i ⟨co.nm,2,co.nl⟩))) (C0 (A9 dk) (A0 t.ks)) (dF t.fs) (C0 (xL (t.xs.map (B8 0))).isEmpty (xL (t.xs.map (B8 0)))),.d (eI 0)]):=by
 have hC:=U7 t dc dk df dx h c hc
 rw[hq] at hC
 have hF:=T8 t.nm t.cs h.hl dc dk df dx h.dc c.nm
 have hl:=h.hl
 have hdf:=h.df
 have hfc:=h.hfc
 rw[hfs] at hdf hfc
 rw[hi] at hF
 have hdf2:df=.sl (R4 [⟨g0.d,A0 g0.cs,A9 g0.d,g0.tb⟩,⟨g1.d,A0 g1.cs,A9 g1.d,g1.tb⟩,⟨g2.d,A0 g2.cs,A9 g2.d,g2.tb⟩,⟨g3.d,A0 g3.cs,A9 g3.d,g3.tb⟩]):=by
  rcases hdf with ⟨_,h2⟩|h2
  ·cases h2
  ·exact h2
 have hf0:(Fi.mk g0.d (A0 g0.cs) (A9 g0.d) g0.tb).ok:=H5 _ (by rw[B6];have:=(hfc g0 (by simp)).1;omega) (D2 _) g0.d g0.sld
 have hf1:(Fi.mk g1.d (A0 g1.cs) (A9 g1.d) g1.tb).ok:=H5 _ (by rw[B6];have:=(hfc g1 (by simp)).1;omega) (D2 _) g1.d g1.sld
 have hf2:(Fi.mk g2.d (A0 g2.cs) (A9 g2.d) g2.tb).ok:=H5 _ (by rw[B6];have:=(hfc g2 (by simp)).1;omega) (D2 _) g2.d g2.sld
 have hf3:(Fi.mk g3.d (A0 g3.cs) (A9 g3.d) g3.tb).ok:=H5 _ (by rw[B6];have:=(hfc g3 (by simp)).1;omega) (D2 _) g3.d g3.sld
 have hK:=A4p t.nm dc dk df dx (B3 t.cs) (A0 t.ks) (A9 dc) (A9 dk) (V3 _ (by rw[G5];omega) (I1 _) dc h.dc) (H5 _ (by rw[B6];have:=h.hk;omega) (D2 _) dk h.dk) _ _ _ _ hf0 hf1 hf2 hf3 hdf2 t.xs h.hxb h.hxs h.dx
 have hcl:=G5 t.cs
 rw[show A9 dc=false by rw[hdc];rfl] at hK
 have q0:g0.d=C0 (A9 g0.d) (A0 g0.cs):=(O8 g0.sld).symm
 have q1:g1.d=C0 (A9 g1.d) (A0 g1.cs):=(O8 g1.sld).symm
 have q2:g2.d=C0 (A9 g2.d) (A0 g2.cs):=(O8 g2.sld).symm
 have q3:g3.d=C0 (A9 g3.d) (A0 g3.cs):=(O8 g3.sld).symm
 have hg:(B3 t.cs)[((i:Nat):Int).toNat]?=some [.str co.nm,eI co.k,.bool co.nl]:=L5 hco
 have hg2:(B3 t.cs)[i]?=some [.str co.nm,eI co.k,.bool co.nl]:=L5 hco
 have hmm:=I1 t.cs
 have hilt:i<(B3 t.cs).length:=by rw[hcl];exact(B2.1 hco).1
 have e1:B3 (t.cs.set i ⟨co.nm,2,co.nl⟩)=(B3 t.cs).set i [.str co.nm,eI 2,.bool co.nl]:=by unfold B3;rw[W4]
 rw[e1]
 obtain⟨k,nm,to,⟨cn,ck,cl⟩,⟨vk,vn,vs⟩⟩:=c
 dsimp only at hk
 subst hk
 have hF:Bi.Pure Tryz.prog U8 [eT t.nm dc dk df dx,.d (.str nm)] (.d (eI i)):=hF
 rw[show dF t.fs=C0 false (F8 [g0,g1,g2,g3]) by rw[hfs];rfl]
 generalize B3 t.cs=Cs at hK hcl hg hg2 hmm hilt q0 q1 q2 q3 ⊢
 generalize A0 t.ks=Ks at hK hcl hg hg2 hmm hilt q0 q1 q2 q3 ⊢
 generalize xL (t.xs.map (B8 0))=Xs at hK hcl hg hg2 hmm hilt q0 q1 q2 q3 ⊢
 generalize A9 dk=b2 at hK hcl hg hg2 hmm hilt q0 q1 q2 q3 ⊢
 generalize A0 g0.cs=G0 at hK hcl hg hg2 hmm hilt q0 q1 q2 q3 ⊢
 generalize A9 g0.d=n0 at hK hcl hg hg2 hmm hilt q0 q1 q2 q3 ⊢
 generalize A0 g1.cs=G1 at hK hcl hg hg2 hmm hilt q0 q1 q2 q3 ⊢
 generalize A9 g1.d=n1 at hK hcl hg hg2 hmm hilt q0 q1 q2 q3 ⊢
 generalize A0 g2.cs=G2 at hK hcl hg hg2 hmm hilt q0 q1 q2 q3 ⊢
 generalize A9 g2.d=n2 at hK hcl hg hg2 hmm hilt q0 q1 q2 q3 ⊢
 generalize A0 g3.cs=G3 at hK hcl hg hg2 hmm hilt q0 q1 q2 q3 ⊢
 generalize A9 g3.d=n3 at hK hcl hg hg2 hmm hilt q0 q1 q2 q3 ⊢
 obtain⟨u0,hu0⟩:∃x,x=g0.tb:=⟨_,rfl⟩
 rw[<- hu0] at hK
 obtain⟨u1,hu1⟩:∃x,x=g1.tb:=⟨_,rfl⟩
 rw[<- hu1] at hK
 obtain⟨u2,hu2⟩:∃x,x=g2.tb:=⟨_,rfl⟩
 rw[<- hu2] at hK
 obtain⟨u3,hu3⟩:∃x,x=g3.tb:=⟨_,rfl⟩
 rw[<- hu3] at hK
 refine B4.deepP (Q:=λr os=>r=.tup [.agg [.d (.str t.nm),.arr 5 (Cs.set i [.str co.nm,eI 2,.bool co.nl]).length,.arr 6 Ks.length,.rs 8 4,.arr 9 Xs.length],.d (eI 0)]/\os[5]?=some (.arr (Cs.set i [.str co.nm,eI 2,.bool co.nl]) 3 0 false)/\os[6]?=some (.arr Ks 1 0 b2)/\os[8]?=some (.rarr [[.arr 10 G0.length,.d (.str u0)],[.arr 11 G1.length,.d (.str u1)],[.arr 12 G2.length,.d (.str u2)],[.arr 13 G3.length,.d (.str u3)]] 2 false)/\os[9]?=some (.arr Xs 7 0 Xs.isEmpty)/\os[10]?=some (.arr G0 1 0 n0)/\os[11]?=some (.arr G1 1 0 n1)/\os[12]?=some (.arr G2 1 0 n2)/\os[13]?=some (.arr G3 1 0 n3)) ?_ ?_
 ·refine V4.goO2 A6 rfl ?_
  rw[Y4]
  repeat' first|refine st ?_|((with_reducible first|apply A8|apply A7);(·first|exact hC|exact hF))|((with_reducible first|apply I7|apply D8);(·exact hK);(try rintro _ _ ⟨rfl,rfl⟩))|((with_reducible apply J4);(·exact hK))|((with_reducible apply I5);refine st ?_;(with_reducible apply J2);(·exact rfl);refine st ?_;(with_reducible apply D8);(·exact hK);(try rintro _ _ ⟨rfl,rfl⟩))|(with_reducible first|apply A5|apply A4)<;>intro _
  exact⟨rfl,rfl,rfl,rfl,rfl,rfl,rfl,rfl,rfl⟩
 ·rintro r os ⟨rfl,hx0,hx1,hx2,hx3,hx4,hx5,hx6,hx7⟩
  refine V6 (rows:=[[.arr 10 G0.length,.d (.str u0)],[.arr 11 G1.length,.d (.str u1)],[.arr 12 G2.length,.d (.str u2)],[.arr 13 G3.length,.d (.str u3)]]) (fs:=[g0,g1,g2,g3]) (.inl (.inr ⟨5,_,3,0,false,rfl,hx0,rfl⟩)) hx1 hx2 hx3 rfl (λi e g he hg=>?_)
  match i,he,hg with
  |0,he,hg=>cases he;cases hg;exact⟨10,_,n0,by rw[hu0],hx4,q0⟩
  |1,he,hg=>cases he;cases hg;exact⟨11,_,n1,by rw[hu1],hx5,q1⟩
  |2,he,hg=>cases he;cases hg;exact⟨12,_,n2,by rw[hu2],hx6,q2⟩
  |3,he,hg=>cases he;cases hg;exact⟨13,_,n3,by rw[hu3],hx7,q3⟩
  |i+4,he,hg=>simp at he
theorem C0m(t:Tb)(dc dk df dx:D)(h:N4 t dc dk df dx)(c:Ch)(hc:J1 c)(hq:E5 t c=0)(g0 g1 g2 g3:Fo)(hfs:t.fs=[g0,g1,g2,g3])(hk:c.k=2)(i:Nat)(hi:E8 c.nm t.cs=i)(hil:i<t.cs.length)(hdc:dc=.sl (B3 t.cs))(hkb:∀k∈t.ks,0<=k/\k<=1048576)(hfb:∀g∈t.fs,∀k∈g.cs,0<=k/\k<=1048576)(hxb:∀e∈t.xs.map (B8 0),e.bk<=1048576) :
  Pure Tryz.prog R7 [eT t.nm dc dk df dx,c.av] (.tup [eT t.nm (.sl (B3 (t.cs.eraseIdx i))) (C0 (A9 dk) (A0 (t.ks.map λc=>B0 c i))) (dF (t.fs.map (I4 i))) (C0 (xL (t.xs.map (B8 0))).isEmpty (xL ((t.xs.map (B8 0)).map (E4 (I0 t.cs.length i))))),.d (eI 0)]):=by
 have hC:=U7 t dc dk df dx h c hc
 rw[hq] at hC
 have hF:=T8 t.nm t.cs h.hl dc dk df dx h.dc c.nm
 have hl:=h.hl
 have hdf:=h.df
 have hfc:=h.hfc
 rw[hfs] at hdf hfc
 rw[hi] at hF
 have hdf2:df=.sl (R4 [⟨g0.d,A0 g0.cs,A9 g0.d,g0.tb⟩,⟨g1.d,A0 g1.cs,A9 g1.d,g1.tb⟩,⟨g2.d,A0 g2.cs,A9 g2.d,g2.tb⟩,⟨g3.d,A0 g3.cs,A9 g3.d,g3.tb⟩]):=by
  rcases hdf with ⟨_,h2⟩|h2
  ·cases h2
  ·exact h2
 have hf0:(Fi.mk g0.d (A0 g0.cs) (A9 g0.d) g0.tb).ok:=H5 _ (by rw[B6];have:=(hfc g0 (by simp)).1;omega) (D2 _) g0.d g0.sld
 have hf1:(Fi.mk g1.d (A0 g1.cs) (A9 g1.d) g1.tb).ok:=H5 _ (by rw[B6];have:=(hfc g1 (by simp)).1;omega) (D2 _) g1.d g1.sld
 have hf2:(Fi.mk g2.d (A0 g2.cs) (A9 g2.d) g2.tb).ok:=H5 _ (by rw[B6];have:=(hfc g2 (by simp)).1;omega) (D2 _) g2.d g2.sld
 have hf3:(Fi.mk g3.d (A0 g3.cs) (A9 g3.d) g3.tb).ok:=H5 _ (by rw[B6];have:=(hfc g3 (by simp)).1;omega) (D2 _) g3.d g3.sld
 have hK:=A4p t.nm dc dk df dx (B3 t.cs) (A0 t.ks) (A9 dc) (A9 dk) (V3 _ (by rw[G5];omega) (I1 _) dc h.dc) (H5 _ (by rw[B6];have:=h.hk;omega) (D2 _) dk h.dk) _ _ _ _ hf0 hf1 hf2 hf3 hdf2 t.xs h.hxb h.hxs h.dx
 have hcl:=G5 t.cs
 rw[show A9 dc=false by rw[hdc];rfl] at hK
 have hkN:A9 dk=true->t.ks=[]:=λhh=>by
  have:=l0 h.dk hh
  cases hks:t.ks with
  |nil=>rfl
  |cons a l=>rw[hks] at this;cases this
 have hxN:(xL (t.xs.map (B8 0))).isEmpty=true->t.xs.map (B8 0)=[]:=by
  intro hh
  cases hx:t.xs.map (B8 0) with
  |nil=>rfl
  |cons a l=>rw[hx] at hh;cases hh
 have hN0:A9 g0.d=true->g0.cs=[]:=λhh=>by
  have:=l0 g0.sld hh
  cases hks:g0.cs with
  |nil=>rfl
  |cons a l=>rw[hks] at this;cases this
 have hB0:=hfb g0 (by rw[hfs];simp)
 have hN1:A9 g1.d=true->g1.cs=[]:=λhh=>by
  have:=l0 g1.sld hh
  cases hks:g1.cs with
  |nil=>rfl
  |cons a l=>rw[hks] at this;cases this
 have hB1:=hfb g1 (by rw[hfs];simp)
 have hN2:A9 g2.d=true->g2.cs=[]:=λhh=>by
  have:=l0 g2.sld hh
  cases hks:g2.cs with
  |nil=>rfl
  |cons a l=>rw[hks] at this;cases this
 have hB2:=hfb g2 (by rw[hfs];simp)
 have hN3:A9 g3.d=true->g3.cs=[]:=λhh=>by
  have:=l0 g3.sld hh
  cases hks:g3.cs with
  |nil=>rfl
  |cons a l=>rw[hks] at this;cases this
 have hB3:=hfb g3 (by rw[hfs];simp)
 have hD:=λT0 T1 T2 T3 T4 T7=>C0F T0 T1 T2 T3 T4 T7 t.nm (B3 t.cs) (I1 _) i (by rw[hcl];exact hil) (by rw[hcl];exact hl) t.ks hkb h.hk (A9 dk) hkN (t.xs.map (B8 0)) (by rw[D0];exact h.hxs) hxb _ hxN g0.cs (A9 g0.d) g0.tb (hfc g0 (by simp)).1 hB0 hN0 g1.cs (A9 g1.d) g1.tb (hfc g1 (by simp)).1 hB1 hN1 g2.cs (A9 g2.d) g2.tb (hfc g2 (by simp)).1 hB2 hN2 g3.cs (A9 g3.d) g3.tb (hfc g3 (by simp)).1 hB3 hN3
 rw[hcl] at hD
 have hkl2:(A0 (t.ks.map λc=>B0 c i)).length=(A0 t.ks).length:=by rw[B6,B6,D0]
 have hxl2:(xL ((t.xs.map (B8 0)).map (E4 (I0 t.cs.length i)))).length=(xL (t.xs.map (B8 0))).length:=by rw[I3,I3,D0]
 have hkl20:(A0 (g0.cs.map λc=>B0 c i)).length=(A0 g0.cs).length:=by rw[B6,B6,D0]
 have hkl21:(A0 (g1.cs.map λc=>B0 c i)).length=(A0 g1.cs).length:=by rw[B6,B6,D0]
 have hkl22:(A0 (g2.cs.map λc=>B0 c i)).length=(A0 g2.cs).length:=by rw[B6,B6,D0]
 have hkl23:(A0 (g3.cs.map λc=>B0 c i)).length=(A0 g3.cs).length:=by rw[B6,B6,D0]
 have q0:(I4 i g0).d=C0 (A9 g0.d) (A0 (g0.cs.map λc=>B0 c i)):=A13 i g0
 have q1:(I4 i g1).d=C0 (A9 g1.d) (A0 (g1.cs.map λc=>B0 c i)):=A13 i g1
 have q2:(I4 i g2).d=C0 (A9 g2.d) (A0 (g2.cs.map λc=>B0 c i)):=A13 i g2
 have q3:(I4 i g3).d=C0 (A9 g3.d) (A0 (g3.cs.map λc=>B0 c i)):=A13 i g3
 have e1:B3 (t.cs.eraseIdx i)=(B3 t.cs).eraseIdx i:=A3L _ _
 rw[e1]
 obtain⟨k,nm,to,⟨cn,ck,cl⟩,⟨vk,vn,vs⟩⟩:=c
 dsimp only at hk
 subst hk
 have hF:Bi.Pure Tryz.prog U8 [eT t.nm dc dk df dx,.d (.str nm)] (.d (eI i)):=hF
 rw[show dF (t.fs.map (I4 i))=C0 false (F8 [I4 i g0,I4 i g1,I4 i g2,I4 i g3]) by rw[hfs];rfl]
 rw[hcl] at hK
 generalize A0 (t.ks.map λc=>B0 c i)=K2 at hK hcl hkl2 hxl2 hkl20 hkl21 hkl22 hkl23 q0 q1 q2 q3 hD ⊢
 generalize xL ((t.xs.map (B8 0)).map (E4 (I0 t.cs.length i)))=X2 at hK hcl hkl2 hxl2 hkl20 hkl21 hkl22 hkl23 q0 q1 q2 q3 hD ⊢
 generalize (B3 t.cs).eraseIdx i=E2 at hK hcl hkl2 hxl2 hkl20 hkl21 hkl22 hkl23 q0 q1 q2 q3 hD ⊢
 generalize A0 (g0.cs.map λc=>B0 c i)=H0 at hK hcl hkl2 hxl2 hkl20 hkl21 hkl22 hkl23 q0 q1 q2 q3 hD ⊢
 generalize A0 (g1.cs.map λc=>B0 c i)=H1 at hK hcl hkl2 hxl2 hkl20 hkl21 hkl22 hkl23 q0 q1 q2 q3 hD ⊢
 generalize A0 (g2.cs.map λc=>B0 c i)=H2 at hK hcl hkl2 hxl2 hkl20 hkl21 hkl22 hkl23 q0 q1 q2 q3 hD ⊢
 generalize A0 (g3.cs.map λc=>B0 c i)=H3 at hK hcl hkl2 hxl2 hkl20 hkl21 hkl22 hkl23 q0 q1 q2 q3 hD ⊢
 generalize B3 t.cs=Cs at hK hcl hkl2 hxl2 hkl20 hkl21 hkl22 hkl23 q0 q1 q2 q3 hD ⊢
 generalize A0 t.ks=Ks at hK hcl hkl2 hxl2 hkl20 hkl21 hkl22 hkl23 q0 q1 q2 q3 hD ⊢
 generalize xL (t.xs.map (B8 0))=Xs at hK hcl hkl2 hxl2 hkl20 hkl21 hkl22 hkl23 q0 q1 q2 q3 hD ⊢
 generalize A9 dk=b2 at hK hcl hkl2 hxl2 hkl20 hkl21 hkl22 hkl23 q0 q1 q2 q3 hD ⊢
 generalize A0 g0.cs=G0 at hK hcl hkl2 hxl2 hkl20 hkl21 hkl22 hkl23 q0 q1 q2 q3 hD ⊢
 generalize A9 g0.d=n0 at hK hcl hkl2 hxl2 hkl20 hkl21 hkl22 hkl23 q0 q1 q2 q3 hD ⊢
 generalize A0 g1.cs=G1 at hK hcl hkl2 hxl2 hkl20 hkl21 hkl22 hkl23 q0 q1 q2 q3 hD ⊢
 generalize A9 g1.d=n1 at hK hcl hkl2 hxl2 hkl20 hkl21 hkl22 hkl23 q0 q1 q2 q3 hD ⊢
 generalize A0 g2.cs=G2 at hK hcl hkl2 hxl2 hkl20 hkl21 hkl22 hkl23 q0 q1 q2 q3 hD ⊢
 generalize A9 g2.d=n2 at hK hcl hkl2 hxl2 hkl20 hkl21 hkl22 hkl23 q0 q1 q2 q3 hD ⊢
 generalize A0 g3.cs=G3 at hK hcl hkl2 hxl2 hkl20 hkl21 hkl22 hkl23 q0 q1 q2 q3 hD ⊢
 generalize A9 g3.d=n3 at hK hcl hkl2 hxl2 hkl20 hkl21 hkl22 hkl23 q0 q1 q2 q3 hD ⊢
 obtain⟨u0,hu0⟩:∃x,x=g0.tb:=⟨_,rfl⟩
 rw[<- hu0] at hK
 simp only[<- hu0] at hD
 obtain⟨u1,hu1⟩:∃x,x=g1.tb:=⟨_,rfl⟩
 rw[<- hu1] at hK
 simp only[<- hu1] at hD
 obtain⟨u2,hu2⟩:∃x,x=g2.tb:=⟨_,rfl⟩
 rw[<- hu2] at hK
 simp only[<- hu2] at hD
 obtain⟨u3,hu3⟩:∃x,x=g3.tb:=⟨_,rfl⟩
 rw[<- hu3] at hK
 simp only[<- hu3] at hD
 refine B4.deepP (Q:=λr os=>r=.tup [.agg [.d (.str t.nm),.d (.sl E2),.arr 6 K2.length,.rs 8 4,.arr 9 X2.length],.d (eI 0)]/\os[6]?=some (.arr K2 1 0 b2)/\os[8]?=some (.rarr [[.arr 10 H0.length,.d (.str u0)],[.arr 11 H1.length,.d (.str u1)],[.arr 12 H2.length,.d (.str u2)],[.arr 13 H3.length,.d (.str u3)]] 2 false)/\os[9]?=some (.arr X2 7 0 Xs.isEmpty)/\os[10]?=some (.arr H0 1 0 n0)/\os[11]?=some (.arr H1 1 0 n1)/\os[12]?=some (.arr H2 1 0 n2)/\os[13]?=some (.arr H3 1 0 n3)) ?_ ?_
 ·rw[hkl2,hxl2]
  rw[hkl20,hkl21,hkl22,hkl23]
  refine V4.goO2 A6 rfl ?_
  repeat' first|refine st ?_|((with_reducible first|apply A8|apply A7);(·first|exact hC|exact hF))|((with_reducible first|apply I7|apply D8);(·first|exact hK|exact hD _ _ _ _ _ _);(try rintro _ _ ⟨rfl,rfl⟩))|((with_reducible apply J4);(·first|exact hK|exact hD _ _ _ _ _ _))|((with_reducible apply I5);refine st ?_;(with_reducible apply J2);(·exact rfl);refine st ?_;(with_reducible apply D8);(·first|exact hK|exact hD _ _ _ _ _ _);(try rintro _ _ ⟨rfl,rfl⟩))|(with_reducible first|apply A5|apply A4)<;>intro _
  exact⟨rfl,rfl,rfl,rfl,rfl,rfl,rfl,rfl⟩
 ·rintro r os ⟨rfl,hx0,hx1,hx2,hx3,hx4,hx5,hx6⟩
  refine V6 (rows:=[[.arr 10 H0.length,.d (.str u0)],[.arr 11 H1.length,.d (.str u1)],[.arr 12 H2.length,.d (.str u2)],[.arr 13 H3.length,.d (.str u3)]]) (fs:=[I4 i g0,I4 i g1,I4 i g2,I4 i g3]) (.inl (.inl rfl)) hx0 hx1 hx2 rfl (λi e g he hg=>?_)
  match i,he,hg with
  |0,he,hg=>cases he;cases hg;exact⟨10,_,n0,by rw[hu0];rfl,hx3,q0⟩
  |1,he,hg=>cases he;cases hg;exact⟨11,_,n1,by rw[hu1];rfl,hx4,q1⟩
  |2,he,hg=>cases he;cases hg;exact⟨12,_,n2,by rw[hu2];rfl,hx5,q2⟩
  |3,he,hg=>cases he;cases hg;exact⟨13,_,n3,by rw[hu3];rfl,hx6,q3⟩
  |i+4,he,hg=>simp at he
end Go.Proofs
end
section
namespace Go.Proofs
open Go.Bi
theorem B7w{t:Tb}{i:Nat}{co:Co}(h:t.cs[i]?=some co):t.cs.getD i ⟨[],0,false⟩=co:=by
 rw[G9,h];rfl
theorem D0o{t:Tb}{dc dk df dx:D}(h:N4 t dc dk df dx){c:Ch}(hc:J1 c)(hv:Vd t)(b:Bool)(hb:b=true->t.xs=[]) :
  N4 (G8 t c) (.sl (B3 (G8 t c).cs)) (C0 (A9 dk) (A0 (G8 t c).ks)) (dF (G8 t c).fs) (C0 b (xL (G8 t c).xs)):=by
 have hF:∀l:List Fo,B5 (dF l) (F8 l):=λl=>X5 λe=>by
  cases l with
  |nil=>rfl
  |cons a r=>cases e
 have hK:A9 dk=true->t.ks=[]:=λe=>by
  have:=l0 h.dk e
  cases hks:t.ks with
  |nil=>rfl
  |cons a l=>rw[hks] at this;cases this
 have hl:=hv.l2
 have hkd:∀i,(t.cs.getD i ⟨[],0,false⟩).nm.length<=1048576:=λi=>by
  rw[G9]
  cases hh:t.cs[i]? with
  |none=>simp
  |some x=>exact h.hls x (C2 hh)
 have hset:∀i (n:Co),n.nm.length<=1048576->∀x∈t.cs.set i n,x.nm.length<=1048576:=λi n hn x hx=>by
  rcases A8x hx with hx|rfl
  ·exact h.hls x hx
  ·exact hn
 unfold G8
 split
 ·refine⟨h.hn,by rw[Q3];simp;omega,λx hx=>?_,h.hk,h.hfl,h.hfc,by rw[D0];exact h.hxs,λe he=>?_,L4,X5 λe=>by rw[hK e];rfl,hF _,X5 λe=>by rw[hb e];rfl⟩
  ·rcases P0.1 hx with hx|hx
   ·exact h.hls x hx
   ·cases j5.1 hx;exact hc.cn
  ·obtain⟨a,ha,rfl⟩:=F2.1 he
   exact N7 (A5m a) (h.hxb a ha)
 ·split
  ·refine⟨h.hn,N7 (List.length_eraseIdx_le ..) (by omega),λx hx=>h.hls x (A8w hx),by rw[D0];exact h.hk,by rw[D0];exact h.hfl,λf hf=>?_,by rw[D0];exact h.hxs,λe he=>?_,L4,X5 λe=>by rw[hK e];rfl,hF _,X5 λe=>by rw[hb e];rfl⟩
   ·obtain⟨g,hg,rfl⟩:=F2.1 hf
    exact⟨by unfold I4;rw[D0];exact(h.hfc g hg).1,(h.hfc g hg).2⟩
   ·obtain⟨a,ha,rfl⟩:=F2.1 he
    exact N7 (C9N _ a) (h.hxb a ha)
  ·have hx1:∀e∈t.xs.map E9,e.bk<=1048576:=λe he=>by
    obtain⟨a,ha,rfl⟩:=F2.1 he
    exact N7 (A5m a) (h.hxb a ha)
   split
   ·exact⟨h.hn,by rw[Y4];omega,hset _ _ hc.to,h.hk,h.hfl,h.hfc,by rw[D0];exact h.hxs,hx1,L4,X5 λe=>by rw[hK e];rfl,hF _,X5 λe=>by rw[hb e];rfl⟩
   ·exact⟨h.hn,by rw[Y4];omega,hset _ _ (hkd _),h.hk,h.hfl,h.hfc,by rw[D0];exact h.hxs,hx1,L4,X5 λe=>by rw[hK e];rfl,hF _,X5 λe=>by rw[hb e];rfl⟩
theorem C00{t:Tb}(hr:t.Rg):t.xs.map (B8 0)=t.xs.map E9:=A7z λa ha=>B9h a (hr a ha)
theorem A5H{α:Type}{l:List α}(h:l.length<=4):l=[]\/(∃a,l=[a])\/(∃a b,l=[a,b])\/(∃a b c,l=[a,b,c])\/∃a b c d,l=[a,b,c,d]:=by
 match l,h with
 |[],_=>exact .inl rfl
 |[a],_=>exact .inr (.inl ⟨a,rfl⟩)
 |[a,b],_=>exact .inr (.inr (.inl ⟨a,b,rfl⟩))
 |[a,b,c],_=>exact .inr (.inr (.inr (.inl ⟨a,b,c,rfl⟩)))
 |[a,b,c,d],_=>exact .inr (.inr (.inr (.inr ⟨a,b,c,d,rfl⟩)))
 |_::_::_::_::_::_,h=>simp at h
theorem C9E{t:Tb}{dc dk df dx:D}(h:N4 t dc dk df dx)(hv:Vd t):dc=.sl (B3 t.cs):=by
 rcases h.dc with ⟨_,h2⟩|h2
 ·have:=hv.l1
  cases hcs:t.cs with
  |nil=>rw[hcs] at this;simp at this
  |cons a l=>rw[hcs] at h2;cases h2
 ·exact h2
end Go.Proofs
end
