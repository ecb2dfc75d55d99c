/- Texts of this claim, joined. No condition. -/
import Derived.Test.YtlkkaepbnnakpaaGreatDoorQ7
set_option linter.unusedSimpArgs false
set_option linter.unusedVariables false
set_option maxRecDepth 10000
set_option maxHeartbeats 4000000
section
set_option maxHeartbeats 8000000
namespace Go.Proofs
open Go.Bi
theorem C19(nm:List UInt8)(es:List (List D))(hm:∀e∈es,e.length=3)(i:Nat)(hi:i<es.length)(hel:es.length<=1048576)(ks:List Int)(hkb:∀k∈ks,0<=k/\k<=1048576)(hkl:ks.length<=1048576)(kn:Bool)(hkn:kn=true->ks=[])(xs:List Ex)(hxl:xs.length<=1048576)(hxb:∀e∈xs,e.bk<=1048576)(xn:Bool)(hxn:xn=true->xs=[])(c0:List Int)(b0:Bool)(t0:List UInt8)(hc0:c0.length<=1048576)(hcb0:∀k∈c0,0<=k/\k<=1048576)(hn0:b0=true->c0=[])(c1:List Int)(b1:Bool)(t1:List UInt8)(hc1:c1.length<=1048576)(hcb1:∀k∈c1,0<=k/\k<=1048576)(hn1:b1=true->c1=[])(c2:List Int)(b2:Bool)(t2:List UInt8)(hc2:c2.length<=1048576)(hcb2:∀k∈c2,0<=k/\k<=1048576)(hn2:b2=true->c2=[])(c3:List Int)(b3:Bool)(t3:List UInt8)(hc3:c3.length<=1048576)(hcb3:∀k∈c3,0<=k/\k<=1048576)(hn3:b3=true->c3=[]) :
  B5 Tryz.prog A0s [.ptr 0 0,.d (eI i)] [.cells [.d (.str nm),.arr 1 es.length,.arr 2 (A0 ks).length,.rs 3 4,.arr 4 (xL xs).length],.arr es 3 0 false,.arr (A0 ks) 1 0 kn,.rarr [[.arr 5 (A0 c0).length,.d (.str t0)],[.arr 6 (A0 c1).length,.d (.str t1)],[.arr 7 (A0 c2).length,.d (.str t2)],[.arr 8 (A0 c3).length,.d (.str t3)]] 2 false,.arr (xL xs) 7 0 xn,.arr (A0 c0) 1 0 b0,.arr (A0 c1) 1 0 b1,.arr (A0 c2) 1 0 b2,.arr (A0 c3) 1 0 b3]
   (λr os=>r=.tup []/\os=[.cells [.d (.str nm),.d (.sl (es.eraseIdx i)),.arr 2 (A0 ks).length,.rs 3 4,.arr 4 (xL xs).length],.arr (es.eraseIdx i++[L4]) 3 (es.length-1) false,.arr (A0 (ks.map λc=>B0 c i)) 1 0 kn,.rarr [[.arr 5 (A0 c0).length,.d (.str t0)],[.arr 6 (A0 c1).length,.d (.str t1)],[.arr 7 (A0 c2).length,.d (.str t2)],[.arr 8 (A0 c3).length,.d (.str t3)]] 2 false,.arr (xL (xs.map (E3 (H7 es.length i)))) 7 0 xn,.arr (A0 (c0.map λc=>B0 c i)) 1 0 b0,.arr (A0 (c1.map λc=>B0 c i)) 1 0 b1,.arr (A0 (c2.map λc=>B0 c i)) 1 0 b2,.arr (A0 (c3.map λc=>B0 c i)) 1 0 b3]):=by
 have hD:=fun {os:List AO} (ho:os[1]?=some (.arr es 3 0 false))=>A4N es hm i hi ho
 refine A4Q.goX A6 rfl ?_
 repeat' first|refine st ?_|(with_reducible first|apply A5|apply A4)<;>intro _
 refine A1t 4 7 rfl rfl ?_
 repeat' first|refine st ?_|(with_reducible first|apply A5|apply A4)<;>intro _
 refine J1 A6 A51 A4W (λ(k:Nat) (A:List (List D))=>[.arr 9 A.length,.d (eI k)]) (λk A=>[.cells [.d (.str nm),.arr 1 es.length,.arr 2 (A0 ks).length,.rs 3 4,.arr 4 (xL xs).length],.arr es 3 0 false,.arr (A0 ks) 1 0 kn,.rarr [[.arr 5 (A0 c0).length,.d (.str t0)],[.arr 6 (A0 c1).length,.d (.str t1)],[.arr 7 (A0 c2).length,.d (.str t2)],[.arr 8 (A0 c3).length,.d (.str t3)]] 2 false,.arr (xL xs) 7 0 xn,.arr (A0 c0) 1 0 b0,.arr (A0 c1) 1 0 b1,.arr (A0 c2) 1 0 b2,.arr (A0 c3) 1 0 b3,.arr A 7 0 A.isEmpty]) (λk A=>k<=es.length/\A=xL (H7 k i)) (λk A=>es.length-k) 0 [] rfl rfl rfl rfl (λ_ _ _=>⟨rfl,rfl⟩) rfl ⟨by omega,by simp[H7,xL]⟩ ?_
 repeat' first|refine st ?_|(with_reducible first|apply A5|apply A4)<;>intro _
 intro k A ⟨h4,h5⟩
 have hAl:A.length=k:=by rw[h5,I6,A0N]
 have hAm:∀e∈A,e.length=7:=by rw[h5];exact O7 _
 by_cases hlt:k<es.length
 ·have hB:=V1 k i (by omega) (by omega)
  have hs:=A5X k i
  rw[<- h5] at hs
  obtain⟨b,hb⟩:∃b,b=B0 k i:=⟨_,rfl⟩
  rw[<- hb] at hB hs
  clear h5
  repeat' first|refine st ?_|((with_reducible first|apply A8|apply A7);(·exact hB))|(with_reducible first|apply A5|apply A4)<;>intro _
  refine⟨k+1,A++[[.int .i64 2,eI b,.int .i64 0,.int .i64 0,.str [],.str [],.nil]],?_,rfl,?_,by omega,by omega,hs⟩
  ·rfl
  ·rw[show(A++[[.int .i64 2,eI b,.int .i64 0,.int .i64 0,.str [],.str [],.nil]]).isEmpty=false by simp]
   first|rfl|skip
 ·have hke:k=es.length:=by omega
  rw[hke] at h5
  have hDc:=hD (os:=[.cells [.d (.str nm),.arr 1 es.length,.arr 2 (A0 ks).length,.rs 3 4,.arr 4 (xL xs).length],.arr es 3 0 false,.arr (A0 ks) 1 0 kn,.rarr [[.arr 5 (A0 c0).length,.d (.str t0)],[.arr 6 (A0 c1).length,.d (.str t1)],[.arr 7 (A0 c2).length,.d (.str t2)],[.arr 8 (A0 c3).length,.d (.str t3)]] 2 false,.arr (xL xs) 7 0 xn,.arr (A0 c0) 1 0 b0,.arr (A0 c1) 1 0 b1,.arr (A0 c2) 1 0 b2,.arr (A0 c3) 1 0 b3,.arr A 7 0 A.isEmpty]) rfl
  obtain⟨es',hes'⟩:∃e,e=es.eraseIdx i:=⟨_,rfl⟩
  rw[<- hes'] at hDc ⊢
  obtain⟨M0,hM0⟩:∃L,L=H7 es.length i:=⟨_,rfl⟩
  have hMl:M0.length<=1048576:=by rw[hM0,A0N];exact hel
  rw[<- hM0] at h5 ⊢
  obtain⟨N0,hN0⟩:∃K,K=A0 (c0.map λc=>B0 c i):=⟨_,rfl⟩
  obtain⟨N1,hN1⟩:∃K,K=A0 (c1.map λc=>B0 c i):=⟨_,rfl⟩
  obtain⟨N2,hN2⟩:∃K,K=A0 (c2.map λc=>B0 c i):=⟨_,rfl⟩
  obtain⟨N3,hN3⟩:∃K,K=A0 (c3.map λc=>B0 c i):=⟨_,rfl⟩
  rw[<- hN0,<- hN1,<- hN2,<- hN3]
  repeat' first|(with_reducible apply H8)|refine st ?_|((with_reducible first|apply I0|apply D7);(·exact hDc);(try rintro _ _ ⟨rfl,rfl⟩))|((with_reducible apply I8);(·exact hDc))|((with_reducible apply H8);refine st ?_;(with_reducible apply I5);(·exact rfl);refine st ?_;(with_reducible apply D7);(·exact hDc);(try rintro _ _ ⟨rfl,rfl⟩))|(with_reducible first|apply A5|apply A4)<;>intro _
  refine F7 A6 A52 A4X (λ(j:Nat)=>[.d (eI j)]) (λj=>[.cells [.d (.str nm),.d (.sl es'),.arr 2 (A0 ks).length,.rs 3 4,.arr 4 (xL xs).length],.arr (es'++[L4]) 3 (es.length-1) false,.arr (A0 (D4 ks (λc=>B0 c i) j)) 1 0 kn,.rarr [[.arr 5 (A0 c0).length,.d (.str t0)],[.arr 6 (A0 c1).length,.d (.str t1)],[.arr 7 (A0 c2).length,.d (.str t2)],[.arr 8 (A0 c3).length,.d (.str t3)]] 2 false,.arr (xL xs) 7 0 xn,.arr (A0 c0) 1 0 b0,.arr (A0 c1) 1 0 b1,.arr (A0 c2) 1 0 b2,.arr (A0 c3) 1 0 b3,.arr A 7 0 A.isEmpty]) (λj=>j<=ks.length) (λj=>ks.length-j) 0 rfl rfl rfl (by rw[o5];rfl) (λ_ _=>⟨rfl,rfl⟩) rfl (by omega) ?_
  repeat' first|refine st ?_|(with_reducible first|apply A5|apply A4)<;>intro _
  intro j h6
  have hKl:=o3 ks (λc=>B0 c i) j h6
  cases hy:ks[j]? with
  |some c=>
   obtain⟨hlt2,he2⟩:=B3.1 hy
   have hkf:kn=false:=by
    cases kn with
    |false=>rfl
    |true=>rw[hkn rfl] at hlt2;simp at hlt2
   subst hkf
   have hg:=N4 (n9 (λc=>B0 c i) hy)
   have hset:=o4 (λc=>B0 c i) hy
   obtain⟨cb1,cb2⟩:=hkb c (C4 hy)
   have hB:=V1 c i (by omega) (by omega)
   have hks:=B7 ks
   obtain⟨y,hyy⟩:∃y,y=B0 c i:=⟨_,rfl⟩
   rw[<- hyy] at hB hset
   have hset2:(A0 (D4 ks (λc=>B0 c i) j)).set j [eI y]=A0 (D4 ks (λc=>B0 c i) (j+1)):=by rw[m8,hset]
   have hml:=B7 (D4 ks (λc=>B0 c i) j)
   have hmm2:=D3 (D4 ks (λc=>B0 c i) j)
   obtain⟨X,hX⟩:∃X,X=A0 (D4 ks (λc=>B0 c i) j):=⟨_,rfl⟩
   rw[<- hX] at hg hset2 hml hmm2 ⊢
   repeat' first|refine st ?_|((with_reducible first|apply A8|apply A7);(·exact hB))|(with_reducible first|apply A5|apply A4)<;>intro _
   refine⟨j+1,rfl,rfl,?_,by omega,by omega⟩
   rw[show((j:Int)).toNat=j from G8 j,hset2]
  |none=>
   have hge:=D8.1 hy
   have hjk:j=ks.length:=by omega
   subst hjk
   rw[n8]
   have hks:=B7 ks
   obtain⟨K',hK'⟩:∃K,K=A0 (ks.map λc=>B0 c i):=⟨_,rfl⟩
   rw[<- hK']
   repeat' first|refine st ?_|(with_reducible first|apply A5|apply A4)<;>intro _
   refine A1u 5 ?_
   refine P8 A6 ?_
   repeat' first|refine st ?_|(with_reducible first|apply A5|apply A4)<;>intro _
   refine F7 A6 A0Z A0Y (λ(j:Nat)=>[.d (eI j)]) (λj=>[.cells [.d (.str nm),.d (.sl es'),.arr 2 (A0 ks).length,.rs 3 4,.arr 4 (xL xs).length],.arr (es'++[L4]) 3 (es.length-1) false,.arr K' 1 0 kn,.rarr [[.arr 5 (A0 c0).length,.d (.str t0)],[.arr 6 (A0 c1).length,.d (.str t1)],[.arr 7 (A0 c2).length,.d (.str t2)],[.arr 8 (A0 c3).length,.d (.str t3)]] 2 false,.arr (xL xs) 7 0 xn,.arr (A0 (D4 c0 (λc=>B0 c i) j)) 1 0 b0,.arr (A0 c1) 1 0 b1,.arr (A0 c2) 1 0 b2,.arr (A0 c3) 1 0 b3,.arr A 7 0 A.isEmpty,.cells [.arr 5 (A0 c0).length,.d (.str t0)]]) (λj=>j<=c0.length) (λj=>c0.length-j) 0 rfl rfl rfl (by rw[o5];rfl) (λ_ _=>⟨rfl,rfl⟩) rfl (by omega) ?_
   repeat' first|refine st ?_|(with_reducible first|apply A5|apply A4)<;>intro _
   intro j h6
   have hKl:=o3 c0 (λc=>B0 c i) j h6
   cases hy:c0[j]? with
   |some c=>
    obtain⟨hlt2,he2⟩:=B3.1 hy
    have hkf:b0=false:=by
     cases b0 with
     |false=>rfl
     |true=>rw[hn0 rfl] at hlt2;simp at hlt2
    subst hkf
    have hg:=N4 (n9 (λc=>B0 c i) hy)
    have hset:=o4 (λc=>B0 c i) hy
    obtain⟨cb1,cb2⟩:=hcb0 c (C4 hy)
    have hB:=V1 c i (by omega) (by omega)
    have hks:=B7 c0
    obtain⟨y,hyy⟩:∃y,y=B0 c i:=⟨_,rfl⟩
    rw[<- hyy] at hB hset
    have hset2:(A0 (D4 c0 (λc=>B0 c i) j)).set j [eI y]=A0 (D4 c0 (λc=>B0 c i) (j+1)):=by rw[m8,hset]
    have hml:=B7 (D4 c0 (λc=>B0 c i) j)
    have hmm2:=D3 (D4 c0 (λc=>B0 c i) j)
    obtain⟨X,hX⟩:∃X,X=A0 (D4 c0 (λc=>B0 c i) j):=⟨_,rfl⟩
    rw[<- hX] at hg hset2 hml hmm2 ⊢
    repeat' first|refine st ?_|((with_reducible first|apply A8|apply A7);(·exact hB))|(with_reducible first|apply A5|apply A4)<;>intro _
    refine⟨j+1,rfl,rfl,?_,by omega,by omega⟩
    rw[show((j:Int)).toNat=j from G8 j,hset2]
   |none=>
    have hge:=D8.1 hy
    have hjk:j=c0.length:=by omega
    subst hjk
    rw[n8]
    have hks:=B7 c0
    rw[<- hN0]
    repeat' first|refine st ?_|(with_reducible first|apply A5|apply A4)<;>intro _
    refine P8 A6 ?_
    repeat' first|refine st ?_|(with_reducible first|apply A5|apply A4)<;>intro _
    refine F7 A6 A0Z A0Y (λ(j:Nat)=>[.d (eI j)]) (λj=>[.cells [.d (.str nm),.d (.sl es'),.arr 2 (A0 ks).length,.rs 3 4,.arr 4 (xL xs).length],.arr (es'++[L4]) 3 (es.length-1) false,.arr K' 1 0 kn,.rarr [[.arr 5 (A0 c0).length,.d (.str t0)],[.arr 6 (A0 c1).length,.d (.str t1)],[.arr 7 (A0 c2).length,.d (.str t2)],[.arr 8 (A0 c3).length,.d (.str t3)]] 2 false,.arr (xL xs) 7 0 xn,.arr N0 1 0 b0,.arr (A0 (D4 c1 (λc=>B0 c i) j)) 1 0 b1,.arr (A0 c2) 1 0 b2,.arr (A0 c3) 1 0 b3,.arr A 7 0 A.isEmpty,.cells [.arr 5 (A0 c0).length,.d (.str t0)],.cells [.arr 6 (A0 c1).length,.d (.str t1)]]) (λj=>j<=c1.length) (λj=>c1.length-j) 0 rfl rfl rfl (by rw[o5];rfl) (λ_ _=>⟨rfl,rfl⟩) rfl (by omega) ?_
    repeat' first|refine st ?_|(with_reducible first|apply A5|apply A4)<;>intro _
    intro j h6
    have hKl:=o3 c1 (λc=>B0 c i) j h6
    cases hy:c1[j]? with
    |some c=>
     obtain⟨hlt2,he2⟩:=B3.1 hy
     have hkf:b1=false:=by
      cases b1 with
      |false=>rfl
      |true=>rw[hn1 rfl] at hlt2;simp at hlt2
     subst hkf
     have hg:=N4 (n9 (λc=>B0 c i) hy)
     have hset:=o4 (λc=>B0 c i) hy
     obtain⟨cb1,cb2⟩:=hcb1 c (C4 hy)
     have hB:=V1 c i (by omega) (by omega)
     have hks:=B7 c1
     obtain⟨y,hyy⟩:∃y,y=B0 c i:=⟨_,rfl⟩
     rw[<- hyy] at hB hset
     have hset2:(A0 (D4 c1 (λc=>B0 c i) j)).set j [eI y]=A0 (D4 c1 (λc=>B0 c i) (j+1)):=by rw[m8,hset]
     have hml:=B7 (D4 c1 (λc=>B0 c i) j)
     have hmm2:=D3 (D4 c1 (λc=>B0 c i) j)
     obtain⟨X,hX⟩:∃X,X=A0 (D4 c1 (λc=>B0 c i) j):=⟨_,rfl⟩
     rw[<- hX] at hg hset2 hml hmm2 ⊢
     repeat' first|refine st ?_|((with_reducible first|apply A8|apply A7);(·exact hB))|(with_reducible first|apply A5|apply A4)<;>intro _
     refine⟨j+1,rfl,rfl,?_,by omega,by omega⟩
     rw[show((j:Int)).toNat=j from G8 j,hset2]
    |none=>
     have hge:=D8.1 hy
     have hjk:j=c1.length:=by omega
     subst hjk
     rw[n8]
     have hks:=B7 c1
     rw[<- hN1]
     repeat' first|refine st ?_|(with_reducible first|apply A5|apply A4)<;>intro _
     refine P8 A6 ?_
     repeat' first|refine st ?_|(with_reducible first|apply A5|apply A4)<;>intro _
     refine F7 A6 A0Z A0Y (λ(j:Nat)=>[.d (eI j)]) (λj=>[.cells [.d (.str nm),.d (.sl es'),.arr 2 (A0 ks).length,.rs 3 4,.arr 4 (xL xs).length],.arr (es'++[L4]) 3 (es.length-1) false,.arr K' 1 0 kn,.rarr [[.arr 5 (A0 c0).length,.d (.str t0)],[.arr 6 (A0 c1).length,.d (.str t1)],[.arr 7 (A0 c2).length,.d (.str t2)],[.arr 8 (A0 c3).length,.d (.str t3)]] 2 false,.arr (xL xs) 7 0 xn,.arr N0 1 0 b0,.arr N1 1 0 b1,.arr (A0 (D4 c2 (λc=>B0 c i) j)) 1 0 b2,.arr (A0 c3) 1 0 b3,.arr A 7 0 A.isEmpty,.cells [.arr 5 (A0 c0).length,.d (.str t0)],.cells [.arr 6 (A0 c1).length,.d (.str t1)],.cells [.arr 7 (A0 c2).length,.d (.str t2)]]) (λj=>j<=c2.length) (λj=>c2.length-j) 0 rfl rfl rfl (by rw[o5];rfl) (λ_ _=>⟨rfl,rfl⟩) rfl (by omega) ?_
     repeat' first|refine st ?_|(with_reducible first|apply A5|apply A4)<;>intro _
     intro j h6
     have hKl:=o3 c2 (λc=>B0 c i) j h6
     cases hy:c2[j]? with
     |some c=>
      obtain⟨hlt2,he2⟩:=B3.1 hy
      have hkf:b2=false:=by
       cases b2 with
       |false=>rfl
       |true=>rw[hn2 rfl] at hlt2;simp at hlt2
      subst hkf
      have hg:=N4 (n9 (λc=>B0 c i) hy)
      have hset:=o4 (λc=>B0 c i) hy
      obtain⟨cb1,cb2⟩:=hcb2 c (C4 hy)
      have hB:=V1 c i (by omega) (by omega)
      have hks:=B7 c2
      obtain⟨y,hyy⟩:∃y,y=B0 c i:=⟨_,rfl⟩
      rw[<- hyy] at hB hset
      have hset2:(A0 (D4 c2 (λc=>B0 c i) j)).set j [eI y]=A0 (D4 c2 (λc=>B0 c i) (j+1)):=by rw[m8,hset]
      have hml:=B7 (D4 c2 (λc=>B0 c i) j)
      have hmm2:=D3 (D4 c2 (λc=>B0 c i) j)
      obtain⟨X,hX⟩:∃X,X=A0 (D4 c2 (λc=>B0 c i) j):=⟨_,rfl⟩
      rw[<- hX] at hg hset2 hml hmm2 ⊢
      repeat' first|refine st ?_|((with_reducible first|apply A8|apply A7);(·exact hB))|(with_reducible first|apply A5|apply A4)<;>intro _
      refine⟨j+1,rfl,rfl,?_,by omega,by omega⟩
      rw[show((j:Int)).toNat=j from G8 j,hset2]
     |none=>
      have hge:=D8.1 hy
      have hjk:j=c2.length:=by omega
      subst hjk
      rw[n8]
      have hks:=B7 c2
      rw[<- hN2]
      repeat' first|refine st ?_|(with_reducible first|apply A5|apply A4)<;>intro _
      refine P8 A6 ?_
      repeat' first|refine st ?_|(with_reducible first|apply A5|apply A4)<;>intro _
      refine F7 A6 A0Z A0Y (λ(j:Nat)=>[.d (eI j)]) (λj=>[.cells [.d (.str nm),.d (.sl es'),.arr 2 (A0 ks).length,.rs 3 4,.arr 4 (xL xs).length],.arr (es'++[L4]) 3 (es.length-1) false,.arr K' 1 0 kn,.rarr [[.arr 5 (A0 c0).length,.d (.str t0)],[.arr 6 (A0 c1).length,.d (.str t1)],[.arr 7 (A0 c2).length,.d (.str t2)],[.arr 8 (A0 c3).length,.d (.str t3)]] 2 false,.arr (xL xs) 7 0 xn,.arr N0 1 0 b0,.arr N1 1 0 b1,.arr N2 1 0 b2,.arr (A0 (D4 c3 (λc=>B0 c i) j)) 1 0 b3,.arr A 7 0 A.isEmpty,.cells [.arr 5 (A0 c0).length,.d (.str t0)],.cells [.arr 6 (A0 c1).length,.d (.str t1)],.cells [.arr 7 (A0 c2).length,.d (.str t2)],.cells [.arr 8 (A0 c3).length,.d (.str t3)]]) (λj=>j<=c3.length) (λj=>c3.length-j) 0 rfl rfl rfl (by rw[o5];rfl) (λ_ _=>⟨rfl,rfl⟩) rfl (by omega) ?_
      repeat' first|refine st ?_|(with_reducible first|apply A5|apply A4)<;>intro _
      intro j h6
      have hKl:=o3 c3 (λc=>B0 c i) j h6
      cases hy:c3[j]? with
      |some c=>
       obtain⟨hlt2,he2⟩:=B3.1 hy
       have hkf:b3=false:=by
        cases b3 with
        |false=>rfl
        |true=>rw[hn3 rfl] at hlt2;simp at hlt2
       subst hkf
       have hg:=N4 (n9 (λc=>B0 c i) hy)
       have hset:=o4 (λc=>B0 c i) hy
       obtain⟨cb1,cb2⟩:=hcb3 c (C4 hy)
       have hB:=V1 c i (by omega) (by omega)
       have hks:=B7 c3
       obtain⟨y,hyy⟩:∃y,y=B0 c i:=⟨_,rfl⟩
       rw[<- hyy] at hB hset
       have hset2:(A0 (D4 c3 (λc=>B0 c i) j)).set j [eI y]=A0 (D4 c3 (λc=>B0 c i) (j+1)):=by rw[m8,hset]
       have hml:=B7 (D4 c3 (λc=>B0 c i) j)
       have hmm2:=D3 (D4 c3 (λc=>B0 c i) j)
       obtain⟨X,hX⟩:∃X,X=A0 (D4 c3 (λc=>B0 c i) j):=⟨_,rfl⟩
       rw[<- hX] at hg hset2 hml hmm2 ⊢
       repeat' first|refine st ?_|((with_reducible first|apply A8|apply A7);(·exact hB))|(with_reducible first|apply A5|apply A4)<;>intro _
       refine⟨j+1,rfl,rfl,?_,by omega,by omega⟩
       rw[show((j:Int)).toNat=j from G8 j,hset2]
      |none=>
       have hge:=D8.1 hy
       have hjk:j=c3.length:=by omega
       subst hjk
       rw[n8]
       have hks:=B7 c3
       rw[<- hN3]
       repeat' first|refine st ?_|(with_reducible first|apply A5|apply A4)<;>intro _
       refine P8 A6 ?_
       repeat' first|refine st ?_|(with_reducible first|apply A5|apply A4)<;>intro _
       have hAe:A.isEmpty=false:=by cases A with
        |nil=>simp at hAl;omega
        |cons a l=>rfl
       rw[hAe]
       have hXl:=I6 xs
       refine A2A 4 (id:=9) (len:=A.length) (sz:=7) (frz:=0) (nl:=false) (es:=A) rfl rfl rfl ?_
       rw[if_neg (by decide:¬(false=true))]
       repeat' first|refine st ?_|(with_reducible first|apply A5|apply A4)<;>intro _
       refine F7 A6 A53 A4Y (λ(q:Nat)=>[.d (eI q)]) (λq=>[.cells [.d (.str nm),.d (.sl es'),.arr 2 (A0 ks).length,.rs 3 4,.arr 4 (xL xs).length],.arr (es'++[L4]) 3 (es.length-1) false,.arr K' 1 0 kn,.rarr [[.arr 5 (A0 c0).length,.d (.str t0)],[.arr 6 (A0 c1).length,.d (.str t1)],[.arr 7 (A0 c2).length,.d (.str t2)],[.arr 8 (A0 c3).length,.d (.str t3)]] 2 false,.arr (xL (L0 xs (E3 M0) q)) 7 0 xn,.arr N0 1 0 b0,.arr N1 1 0 b1,.arr N2 1 0 b2,.arr N3 1 0 b3,.arr A 7 A.length false,.cells [.arr 5 (A0 c0).length,.d (.str t0)],.cells [.arr 6 (A0 c1).length,.d (.str t1)],.cells [.arr 7 (A0 c2).length,.d (.str t2)],.cells [.arr 8 (A0 c3).length,.d (.str t3)]]) (λq=>q<=xs.length) (λq=>xs.length-q) 0 rfl rfl rfl (by rw[A5V];rfl) (λ_ _=>⟨rfl,rfl⟩) rfl (by omega) ?_
       repeat' first|refine st ?_|(with_reducible first|apply A5|apply A4)<;>intro _
       intro q h7
       have hMb:∀a∈M0,a.bk<=1048576:=by
        intro a ha
        rw[hM0] at ha
        obtain⟨b,_,rfl⟩:=F1.1 ha
        unfold mvE Ex.bk
        rw[Ex.ds_mk]
        exact P3 rfl
       have hXql:=A5T xs (E3 M0) q h7
       cases hx:xs[q]? with
       |some x=>
        obtain⟨hlt3,he3⟩:=B3.1 hx
        have hxf:xn=false:=by
         cases xn with
         |false=>rfl
         |true=>rw[hxn rfl] at hlt3;simp at hlt3
        subst hxf
        have hg:=A5S (E3 M0) hx
        have hset:=A5U (E3 M0) hx
        have hS:=A4H M0 hMl hMb (.sl A) (by rw[h5];exact O6) x (hxb x (C4 hx))
        have hq1:=I6 (L0 xs (E3 M0) q)
        have hq2:=O7 (L0 xs (E3 M0) q)
        obtain⟨z,hz⟩:∃z,z=E3 M0 x:=⟨_,rfl⟩
        rw[<- hz] at hS hset
        have hset2:(xL (L0 xs (E3 M0) q)).set q z.ds=xL (L0 xs (E3 M0) (q+1)):=by rw[<- hset];unfold xL;rw[W2]
        obtain⟨o1,n1,v1,m1,l1,a1⟩:=x
        obtain⟨o2,n2,v2,m2,l2,a2⟩:=z
        have hg:=m4 _ _ _ _ _ _ _ hg
        rw[Ex.av_mk,Ex.av_mk] at hS
        rw[Ex.ds_mk] at hset2
        obtain⟨X,hX⟩:∃X,X=xL (L0 xs (E3 M0) q):=⟨_,rfl⟩
        rw[<- hX] at hg hset2 hq1 hq2 ⊢
        repeat' first|refine st ?_|((with_reducible first|apply A8|apply A7);(·exact hS))|(with_reducible first|apply A5|apply A4)<;>intro _
        refine⟨q+1,rfl,rfl,?_,by omega,by omega⟩
        rw[show((q:Int)).toNat=q from G8 q,hset2]
       |none=>
        have hge:=D8.1 hx
        have hqk:q=xs.length:=by omega
        subst hqk
        rw[A5R]
        repeat' first|refine st ?_|(with_reducible first|apply A5|apply A4)<;>intro _
        exact⟨rfl,rfl⟩
theorem C1a(T0 T1 T2 T3 T4 T7:AO)(nm:List UInt8)(es:List (List D))(hm:∀e∈es,e.length=3)(i:Nat)(hi:i<es.length)(hel:es.length<=1048576)(ks:List Int)(hkb:∀k∈ks,0<=k/\k<=1048576)(hkl:ks.length<=1048576)(kn:Bool)(hkn:kn=true->ks=[])(xs:List Ex)(hxl:xs.length<=1048576)(hxb:∀e∈xs,e.bk<=1048576)(xn:Bool)(hxn:xn=true->xs=[])(c0:List Int)(b0:Bool)(t0:List UInt8)(hc0:c0.length<=1048576)(hcb0:∀k∈c0,0<=k/\k<=1048576)(hn0:b0=true->c0=[])(c1:List Int)(b1:Bool)(t1:List UInt8)(hc1:c1.length<=1048576)(hcb1:∀k∈c1,0<=k/\k<=1048576)(hn1:b1=true->c1=[])(c2:List Int)(b2:Bool)(t2:List UInt8)(hc2:c2.length<=1048576)(hcb2:∀k∈c2,0<=k/\k<=1048576)(hn2:b2=true->c2=[])(c3:List Int)(b3:Bool)(t3:List UInt8)(hc3:c3.length<=1048576)(hcb3:∀k∈c3,0<=k/\k<=1048576)(hn3:b3=true->c3=[]) :
  B5 Tryz.prog A0s [.ptr 14 0,.d (eI i)] [T0,T1,T2,T3,T4,.arr es 3 0 false,.arr (A0 ks) 1 0 kn,T7,.rarr [[.arr 10 (A0 c0).length,.d (.str t0)],[.arr 11 (A0 c1).length,.d (.str t1)],[.arr 12 (A0 c2).length,.d (.str t2)],[.arr 13 (A0 c3).length,.d (.str t3)]] 2 false,.arr (xL xs) 7 0 xn,.arr (A0 c0) 1 0 b0,.arr (A0 c1) 1 0 b1,.arr (A0 c2) 1 0 b2,.arr (A0 c3) 1 0 b3,.cells [.d (.str nm),.arr 5 es.length,.arr 6 (A0 ks).length,.rs 8 4,.arr 9 (xL xs).length]]
   (λr os=>r=.tup []/\os=[T0,T1,T2,T3,T4,.arr (es.eraseIdx i++[L4]) 3 (es.length-1) false,.arr (A0 (ks.map λc=>B0 c i)) 1 0 kn,T7,.rarr [[.arr 10 (A0 c0).length,.d (.str t0)],[.arr 11 (A0 c1).length,.d (.str t1)],[.arr 12 (A0 c2).length,.d (.str t2)],[.arr 13 (A0 c3).length,.d (.str t3)]] 2 false,.arr (xL (xs.map (E3 (H7 es.length i)))) 7 0 xn,.arr (A0 (c0.map λc=>B0 c i)) 1 0 b0,.arr (A0 (c1.map λc=>B0 c i)) 1 0 b1,.arr (A0 (c2.map λc=>B0 c i)) 1 0 b2,.arr (A0 (c3.map λc=>B0 c i)) 1 0 b3,.cells [.d (.str nm),.d (.sl (es.eraseIdx i)),.arr 6 (A0 ks).length,.rs 8 4,.arr 9 (xL xs).length]]):=by
 have:=B5.frame (K:=λr os=>r=.tup []/\os=[T0,T1,T2,T3,T4,.arr (es.eraseIdx i++[L4]) 3 (es.length-1) false,.arr (A0 (ks.map λc=>B0 c i)) 1 0 kn,T7,.rarr [[.arr 10 (A0 c0).length,.d (.str t0)],[.arr 11 (A0 c1).length,.d (.str t1)],[.arr 12 (A0 c2).length,.d (.str t2)],[.arr 13 (A0 c3).length,.d (.str t3)]] 2 false,.arr (xL (xs.map (E3 (H7 es.length i)))) 7 0 xn,.arr (A0 (c0.map λc=>B0 c i)) 1 0 b0,.arr (A0 (c1.map λc=>B0 c i)) 1 0 b1,.arr (A0 (c2.map λc=>B0 c i)) 1 0 b2,.arr (A0 (c3.map λc=>B0 c i)) 1 0 b3,.cells [.d (.str nm),.d (.sl (es.eraseIdx i)),.arr 6 (A0 ks).length,.rs 8 4,.arr 9 (xL xs).length]]) (C19 nm es hm i hi hel ks hkb hkl kn hkn xs hxl hxb xn hxn c0 b0 t0 hc0 hcb0 hn0 c1 b1 t1 hc1 hcb1 hn1 c2 b2 t2 hc2 hcb2 hn2 c3 b3 t3 hc3 hcb3 hn3) [14,5,6,8,9,10,11,12,13]
  [T0,T1,T2,T3,T4,.arr es 3 0 false,.arr (A0 ks) 1 0 kn,T7,.rarr [[.arr 10 (A0 c0).length,.d (.str t0)],[.arr 11 (A0 c1).length,.d (.str t1)],[.arr 12 (A0 c2).length,.d (.str t2)],[.arr 13 (A0 c3).length,.d (.str t3)]] 2 false,.arr (xL xs) 7 0 xn,.arr (A0 c0) 1 0 b0,.arr (A0 c1) 1 0 b1,.arr (A0 c2) 1 0 b2,.arr (A0 c3) 1 0 b3,.cells [.d (.str nm),.arr 5 es.length,.arr 6 (A0 ks).length,.rs 8 4,.arr 9 (xL xs).length]] rfl (by decide) (λi o h=>by
   match i,h with
   |0,h=>cases h;rfl
   |1,h=>cases h;rfl
   |2,h=>cases h;rfl
   |3,h=>cases h;rfl
   |4,h=>cases h;rfl
   |5,h=>cases h;rfl
   |6,h=>cases h;rfl
   |7,h=>cases h;rfl
   |8,h=>cases h;rfl
   |i+9,h=>simp at h) (λa ha=>by
    simp only[I9,m5,or_false] at ha
    rcases ha with rfl|rfl<;>simp[AV.bnd2,AV.bnd1]) (λo ho=>by
    simp only[I9,m5,or_false] at ho
    rcases ho with rfl|rfl|rfl|rfl|rfl|rfl|rfl|rfl|rfl
    ·exact L7 rfl
    ·exact L7 rfl
    ·exact L7 rfl
    ·exact L7 rfl
    ·exact L7 rfl
    ·exact L7 rfl
    ·exact L7 rfl
    ·exact L7 rfl
    ·exact L7 rfl
    ) (by
   rintro r bs' ⟨rfl,rfl⟩
   exact⟨rfl,rfl⟩)
 exact this
end Go.Proofs
end
section
set_option maxHeartbeats 8000000
namespace Go.Proofs
open Go.Bi
theorem C0R(t:Tb)(dc dk df dx:D)(h:M6 t dc dk df dx)(c:Ch)(hc:G7 c)(hq:D2 t c=0)(g0 g1 g2 g3:Fo)(hfs:t.fs=[g0,g1,g2,g3])(hk:c.k=1) :
  Pure Tryz.prog R3 [eT t.nm dc dk df dx,c.av] (.tup [eT t.nm (.sl (B2 (t.cs++[c.co]))) (C2 (A9 dk) (A0 t.ks)) (dF t.fs) (C2 (xL (t.xs.map (B9 0))).isEmpty (xL (t.xs.map (B9 0)))),.d (eI 0)]):=by
 have hC:=U3 t dc dk df dx h c hc
 rw[hq] at hC
 have hF:=R8 t.nm t.cs h.hl dc dk df dx h.dc c.nm
 have hl:=h.hl
 have hdf:=h.df
 have hfc:=h.hfc
 rw[hfs] at hdf hfc
 have hdf2:df=.sl (R0 [⟨g0.d,A0 g0.cs,A9 g0.d,g0.tb⟩,⟨g1.d,A0 g1.cs,A9 g1.d,g1.tb⟩,⟨g2.d,A0 g2.cs,A9 g2.d,g2.tb⟩,⟨g3.d,A0 g3.cs,A9 g3.d,g3.tb⟩]):=by
  rcases hdf with ⟨_,h2⟩|h2
  ·cases h2
  ·exact h2
 have hf0:(Fi.mk g0.d (A0 g0.cs) (A9 g0.d) g0.tb).ok:=F9 _ (by rw[B7];have:=(hfc g0 (by simp)).1;omega) (D3 _) g0.d g0.sld
 have hf1:(Fi.mk g1.d (A0 g1.cs) (A9 g1.d) g1.tb).ok:=F9 _ (by rw[B7];have:=(hfc g1 (by simp)).1;omega) (D3 _) g1.d g1.sld
 have hf2:(Fi.mk g2.d (A0 g2.cs) (A9 g2.d) g2.tb).ok:=F9 _ (by rw[B7];have:=(hfc g2 (by simp)).1;omega) (D3 _) g2.d g2.sld
 have hf3:(Fi.mk g3.d (A0 g3.cs) (A9 g3.d) g3.tb).ok:=F9 _ (by rw[B7];have:=(hfc g3 (by simp)).1;omega) (D3 _) g3.d g3.sld
 have hK:=A4F t.nm dc dk df dx (B2 t.cs) (A0 t.ks) (A9 dc) (A9 dk) (V0 _ (by rw[F4];omega) (I4 _) dc h.dc) (F9 _ (by rw[B7];have:=h.hk;omega) (D3 _) dk h.dk) _ _ _ _ hf0 hf1 hf2 hf3 hdf2 t.xs h.hxb h.hxs h.dx
 have hcl:=F4 t.cs
 have q0:g0.d=C2 (A9 g0.d) (A0 g0.cs):=(O5 g0.sld).symm
 have q1:g1.d=C2 (A9 g1.d) (A0 g1.cs):=(O5 g1.sld).symm
 have q2:g2.d=C2 (A9 g2.d) (A0 g2.cs):=(O5 g2.sld).symm
 have q3:g3.d=C2 (A9 g3.d) (A0 g3.cs):=(O5 g3.sld).symm
 have e1:B2 (t.cs++[c.co])=B2 t.cs++[c.co.ds]:=by simp[B2]
 rw[e1]
 obtain⟨k,nm,to,⟨cn,ck,cl⟩,⟨vk,vn,vs⟩⟩:=c
 dsimp only at hk
 subst hk
 obtain⟨f,hf⟩:∃f,f=D6 nm t.cs:=⟨_,rfl⟩
 have hF:Bi.Pure Tryz.prog U5 [eT t.nm dc dk df dx,.d (.str nm)] (.d (eI f)):=by rw[hf];exact hF
 rw[show dF t.fs=C2 false (H6 [g0,g1,g2,g3]) by rw[hfs];rfl]
 generalize B2 t.cs=Cs at hK hcl q0 q1 q2 q3 ⊢
 generalize A0 t.ks=Ks at hK hcl q0 q1 q2 q3 ⊢
 generalize xL (t.xs.map (B9 0))=Xs at hK hcl q0 q1 q2 q3 ⊢
 generalize A9 dk=b2 at hK hcl q0 q1 q2 q3 ⊢
 generalize A9 dc=b1 at hK hcl q0 q1 q2 q3 ⊢
 generalize A0 g0.cs=G0 at hK hcl q0 q1 q2 q3 ⊢
 generalize A9 g0.d=n0 at hK hcl q0 q1 q2 q3 ⊢
 generalize A0 g1.cs=G1 at hK hcl q0 q1 q2 q3 ⊢
 generalize A9 g1.d=n1 at hK hcl q0 q1 q2 q3 ⊢
 generalize A0 g2.cs=G2 at hK hcl q0 q1 q2 q3 ⊢
 generalize A9 g2.d=n2 at hK hcl q0 q1 q2 q3 ⊢
 generalize A0 g3.cs=G3 at hK hcl q0 q1 q2 q3 ⊢
 generalize A9 g3.d=n3 at hK hcl q0 q1 q2 q3 ⊢
 obtain⟨u0,hu0⟩:∃x,x=g0.tb:=⟨_,rfl⟩
 rw[<- hu0] at hK
 obtain⟨u1,hu1⟩:∃x,x=g1.tb:=⟨_,rfl⟩
 rw[<- hu1] at hK
 obtain⟨u2,hu2⟩:∃x,x=g2.tb:=⟨_,rfl⟩
 rw[<- hu2] at hK
 obtain⟨u3,hu3⟩:∃x,x=g3.tb:=⟨_,rfl⟩
 rw[<- hu3] at hK
 refine B5.deepP (Q:=λr os=>r=.tup [.agg [.d (.str t.nm),.arr 5 (Cs++[[.str cn,eI ck,.bool cl]]).length,.arr 6 Ks.length,.rs 8 4,.arr 9 Xs.length],.d (eI 0)]/\os[5]?=some (.arr (Cs++[[.str cn,eI ck,.bool cl]]) 3 0 false)/\os[6]?=some (.arr Ks 1 0 b2)/\os[8]?=some (.rarr [[.arr 10 G0.length,.d (.str u0)],[.arr 11 G1.length,.d (.str u1)],[.arr 12 G2.length,.d (.str u2)],[.arr 13 G3.length,.d (.str u3)]] 2 false)/\os[9]?=some (.arr Xs 7 0 Xs.isEmpty)/\os[10]?=some (.arr G0 1 0 n0)/\os[11]?=some (.arr G1 1 0 n1)/\os[12]?=some (.arr G2 1 0 n2)/\os[13]?=some (.arr G3 1 0 n3)) ?_ ?_
 ·refine V2.goO2 A6 rfl ?_
  repeat' first|refine st ?_|((with_reducible first|apply A8|apply A7);(·first|exact hC|exact hF))|((with_reducible first|apply I0|apply D7);(·exact hK);(try rintro _ _ ⟨rfl,rfl⟩))|((with_reducible apply I8);(·exact hK))|((with_reducible apply H8);refine st ?_;(with_reducible apply I5);(·exact rfl);refine st ?_;(with_reducible apply D7);(·exact hK);(try rintro _ _ ⟨rfl,rfl⟩))|(with_reducible first|apply A5|apply A4)<;>intro _
  exact⟨rfl,rfl,rfl,rfl,rfl,rfl,rfl,rfl,rfl⟩
 ·rintro r os ⟨rfl,hx0,hx1,hx2,hx3,hx4,hx5,hx6,hx7⟩
  refine V3 (rows:=[[.arr 10 G0.length,.d (.str u0)],[.arr 11 G1.length,.d (.str u1)],[.arr 12 G2.length,.d (.str u2)],[.arr 13 G3.length,.d (.str u3)]]) (fs:=[g0,g1,g2,g3]) (.inl (.inr ⟨5,_,3,0,false,rfl,hx0,rfl⟩)) hx1 hx2 hx3 rfl (λi e g he hg=>?_)
  match i,he,hg with
  |0,he,hg=>cases he;cases hg;exact⟨10,_,n0,by rw[hu0],hx4,q0⟩
  |1,he,hg=>cases he;cases hg;exact⟨11,_,n1,by rw[hu1],hx5,q1⟩
  |2,he,hg=>cases he;cases hg;exact⟨12,_,n2,by rw[hu2],hx6,q2⟩
  |3,he,hg=>cases he;cases hg;exact⟨13,_,n3,by rw[hu3],hx7,q3⟩
  |i+4,he,hg=>simp at he
theorem C0T(t:Tb)(dc dk df dx:D)(h:M6 t dc dk df dx)(c:Ch)(hc:G7 c)(hq:D2 t c=0)(g0 g1 g2 g3:Fo)(hfs:t.fs=[g0,g1,g2,g3])(hk:c.k=3)(i:Nat)(hi:D6 c.nm t.cs=i)(co:Co)(hco:t.cs[i]?=some co)(hdc:dc=.sl (B2 t.cs)) :
  Pure Tryz.prog R3 [eT t.nm dc dk df dx,c.av] (.tup [eT t.nm (.sl (B2 (t.cs.set i ⟨c.to,co.k,co.nl⟩))) (C2 (A9 dk) (A0 t.ks)) (dF t.fs) (C2 (xL (t.xs.map (B9 0))).isEmpty (xL (t.xs.map (B9 0)))),.d (eI 0)]):=by
 have hC:=U3 t dc dk df dx h c hc
 rw[hq] at hC
 have hF:=R8 t.nm t.cs h.hl dc dk df dx h.dc c.nm
 have hl:=h.hl
 have hdf:=h.df
 have hfc:=h.hfc
 rw[hfs] at hdf hfc
 rw[hi] at hF
 have hdf2:df=.sl (R0 [⟨g0.d,A0 g0.cs,A9 g0.d,g0.tb⟩,⟨g1.d,A0 g1.cs,A9 g1.d,g1.tb⟩,⟨g2.d,A0 g2.cs,A9 g2.d,g2.tb⟩,⟨g3.d,A0 g3.cs,A9 g3.d,g3.tb⟩]):=by
  rcases hdf with ⟨_,h2⟩|h2
  ·cases h2
  ·exact h2
 have hf0:(Fi.mk g0.d (A0 g0.cs) (A9 g0.d) g0.tb).ok:=F9 _ (by rw[B7];have:=(hfc g0 (by simp)).1;omega) (D3 _) g0.d g0.sld
 have hf1:(Fi.mk g1.d (A0 g1.cs) (A9 g1.d) g1.tb).ok:=F9 _ (by rw[B7];have:=(hfc g1 (by simp)).1;omega) (D3 _) g1.d g1.sld
 have hf2:(Fi.mk g2.d (A0 g2.cs) (A9 g2.d) g2.tb).ok:=F9 _ (by rw[B7];have:=(hfc g2 (by simp)).1;omega) (D3 _) g2.d g2.sld
 have hf3:(Fi.mk g3.d (A0 g3.cs) (A9 g3.d) g3.tb).ok:=F9 _ (by rw[B7];have:=(hfc g3 (by simp)).1;omega) (D3 _) g3.d g3.sld
 have hK:=A4F t.nm dc dk df dx (B2 t.cs) (A0 t.ks) (A9 dc) (A9 dk) (V0 _ (by rw[F4];omega) (I4 _) dc h.dc) (F9 _ (by rw[B7];have:=h.hk;omega) (D3 _) dk h.dk) _ _ _ _ hf0 hf1 hf2 hf3 hdf2 t.xs h.hxb h.hxs h.dx
 have hcl:=F4 t.cs
 rw[show A9 dc=false by rw[hdc];rfl] at hK
 have q0:g0.d=C2 (A9 g0.d) (A0 g0.cs):=(O5 g0.sld).symm
 have q1:g1.d=C2 (A9 g1.d) (A0 g1.cs):=(O5 g1.sld).symm
 have q2:g2.d=C2 (A9 g2.d) (A0 g2.cs):=(O5 g2.sld).symm
 have q3:g3.d=C2 (A9 g3.d) (A0 g3.cs):=(O5 g3.sld).symm
 have hg:(B2 t.cs)[((i:Nat):Int).toNat]?=some [.str co.nm,eI co.k,.bool co.nl]:=O2 hco
 have hg2:(B2 t.cs)[i]?=some [.str co.nm,eI co.k,.bool co.nl]:=O2 hco
 have hmm:=I4 t.cs
 have hilt:i<(B2 t.cs).length:=by rw[hcl];exact(B3.1 hco).1
 have e1:B2 (t.cs.set i ⟨c.to,co.k,co.nl⟩)=(B2 t.cs).set i [.str c.to,eI co.k,.bool co.nl]:=by unfold B2;rw[W2]
 rw[e1]
 obtain⟨k,nm,to,⟨cn,ck,cl⟩,⟨vk,vn,vs⟩⟩:=c
 dsimp only at hk
 subst hk
 have hF:Bi.Pure Tryz.prog U5 [eT t.nm dc dk df dx,.d (.str nm)] (.d (eI i)):=hF
 rw[show dF t.fs=C2 false (H6 [g0,g1,g2,g3]) by rw[hfs];rfl]
 generalize B2 t.cs=Cs at hK hcl hg hg2 hmm hilt q0 q1 q2 q3 ⊢
 generalize A0 t.ks=Ks at hK hcl hg hg2 hmm hilt q0 q1 q2 q3 ⊢
 generalize xL (t.xs.map (B9 0))=Xs at hK hcl hg hg2 hmm hilt q0 q1 q2 q3 ⊢
 generalize A9 dk=b2 at hK hcl hg hg2 hmm hilt q0 q1 q2 q3 ⊢
 generalize A0 g0.cs=G0 at hK hcl hg hg2 hmm hilt q0 q1 q2 q3 ⊢
 generalize A9 g0.d=n0 at hK hcl hg hg2 hmm hilt q0 q1 q2 q3 ⊢
 generalize A0 g1.cs=G1 at hK hcl hg hg2 hmm hilt q0 q1 q2 q3 ⊢
 generalize A9 g1.d=n1 at hK hcl hg hg2 hmm hilt q0 q1 q2 q3 ⊢
 generalize A0 g2.cs=G2 at hK hcl hg hg2 hmm hilt q0 q1 q2 q3 ⊢
 generalize A9 g2.d=n2 at hK hcl hg hg2 hmm hilt q0 q1 q2 q3 ⊢
 generalize A0 g3.cs=G3 at hK hcl hg hg2 hmm hilt q0 q1 q2 q3 ⊢
 generalize A9 g3.d=n3 at hK hcl hg hg2 hmm hilt q0 q1 q2 q3 ⊢
 obtain⟨u0,hu0⟩:∃x,x=g0.tb:=⟨_,rfl⟩
 rw[<- hu0] at hK
 obtain⟨u1,hu1⟩:∃x,x=g1.tb:=⟨_,rfl⟩
 rw[<- hu1] at hK
 obtain⟨u2,hu2⟩:∃x,x=g2.tb:=⟨_,rfl⟩
 rw[<- hu2] at hK
 obtain⟨u3,hu3⟩:∃x,x=g3.tb:=⟨_,rfl⟩
 rw[<- hu3] at hK
 refine B5.deepP (Q:=λr os=>r=.tup [.agg [.d (.str t.nm),.arr 5 (Cs.set i [.str to,eI co.k,.bool co.nl]).length,.arr 6 Ks.length,.rs 8 4,.arr 9 Xs.length],.d (eI 0)]/\os[5]?=some (.arr (Cs.set i [.str to,eI co.k,.bool co.nl]) 3 0 false)/\os[6]?=some (.arr Ks 1 0 b2)/\os[8]?=some (.rarr [[.arr 10 G0.length,.d (.str u0)],[.arr 11 G1.length,.d (.str u1)],[.arr 12 G2.length,.d (.str u2)],[.arr 13 G3.length,.d (.str u3)]] 2 false)/\os[9]?=some (.arr Xs 7 0 Xs.isEmpty)/\os[10]?=some (.arr G0 1 0 n0)/\os[11]?=some (.arr G1 1 0 n1)/\os[12]?=some (.arr G2 1 0 n2)/\os[13]?=some (.arr G3 1 0 n3)) ?_ ?_
 ·refine V2.goO2 A6 rfl ?_
  rw[U4]
  repeat' first|refine st ?_|((with_reducible first|apply A8|apply A7);(·first|exact hC|exact hF))|((with_reducible first|apply I0|apply D7);(·exact hK);(try rintro _ _ ⟨rfl,rfl⟩))|((with_reducible apply I8);(·exact hK))|((with_reducible apply H8);refine st ?_;(with_reducible apply I5);(·exact rfl);refine st ?_;(with_reducible apply D7);(·exact hK);(try rintro _ _ ⟨rfl,rfl⟩))|(with_reducible first|apply A5|apply A4)<;>intro _
  exact⟨rfl,rfl,rfl,rfl,rfl,rfl,rfl,rfl,rfl⟩
 ·rintro r os ⟨rfl,hx0,hx1,hx2,hx3,hx4,hx5,hx6,hx7⟩
  refine V3 (rows:=[[.arr 10 G0.length,.d (.str u0)],[.arr 11 G1.length,.d (.str u1)],[.arr 12 G2.length,.d (.str u2)],[.arr 13 G3.length,.d (.str u3)]]) (fs:=[g0,g1,g2,g3]) (.inl (.inr ⟨5,_,3,0,false,rfl,hx0,rfl⟩)) hx1 hx2 hx3 rfl (λi e g he hg=>?_)
  match i,he,hg with
  |0,he,hg=>cases he;cases hg;exact⟨10,_,n0,by rw[hu0],hx4,q0⟩
  |1,he,hg=>cases he;cases hg;exact⟨11,_,n1,by rw[hu1],hx5,q1⟩
  |2,he,hg=>cases he;cases hg;exact⟨12,_,n2,by rw[hu2],hx6,q2⟩
  |3,he,hg=>cases he;cases hg;exact⟨13,_,n3,by rw[hu3],hx7,q3⟩
  |i+4,he,hg=>simp at he
theorem C0U(t:Tb)(dc dk df dx:D)(h:M6 t dc dk df dx)(c:Ch)(hc:G7 c)(hq:D2 t c=0)(g0 g1 g2 g3:Fo)(hfs:t.fs=[g0,g1,g2,g3])(hk:c.k=4)(i:Nat)(hi:D6 c.nm t.cs=i)(co:Co)(hco:t.cs[i]?=some co)(hdc:dc=.sl (B2 t.cs)) :
  Pure Tryz.prog R3 [eT t.nm dc dk df dx,c.av] (.tup [eT t.nm (.sl (B2 (t.cs.set i ⟨co.nm,2,co.nl⟩))) (C2 (A9 dk) (A0 t.ks)) (dF t.fs) (C2 (xL (t.xs.map (B9 0))).isEmpty (xL (t.xs.map (B9 0)))),.d (eI 0)]):=by
 have hC:=U3 t dc dk df dx h c hc
 rw[hq] at hC
 have hF:=R8 t.nm t.cs h.hl dc dk df dx h.dc c.nm
 have hl:=h.hl
 have hdf:=h.df
 have hfc:=h.hfc
 rw[hfs] at hdf hfc
 rw[hi] at hF
 have hdf2:df=.sl (R0 [⟨g0.d,A0 g0.cs,A9 g0.d,g0.tb⟩,⟨g1.d,A0 g1.cs,A9 g1.d,g1.tb⟩,⟨g2.d,A0 g2.cs,A9 g2.d,g2.tb⟩,⟨g3.d,A0 g3.cs,A9 g3.d,g3.tb⟩]):=by
  rcases hdf with ⟨_,h2⟩|h2
  ·cases h2
  ·exact h2
 have hf0:(Fi.mk g0.d (A0 g0.cs) (A9 g0.d) g0.tb).ok:=F9 _ (by rw[B7];have:=(hfc g0 (by simp)).1;omega) (D3 _) g0.d g0.sld
 have hf1:(Fi.mk g1.d (A0 g1.cs) (A9 g1.d) g1.tb).ok:=F9 _ (by rw[B7];have:=(hfc g1 (by simp)).1;omega) (D3 _) g1.d g1.sld
 have hf2:(Fi.mk g2.d (A0 g2.cs) (A9 g2.d) g2.tb).ok:=F9 _ (by rw[B7];have:=(hfc g2 (by simp)).1;omega) (D3 _) g2.d g2.sld
 have hf3:(Fi.mk g3.d (A0 g3.cs) (A9 g3.d) g3.tb).ok:=F9 _ (by rw[B7];have:=(hfc g3 (by simp)).1;omega) (D3 _) g3.d g3.sld
 have hK:=A4F t.nm dc dk df dx (B2 t.cs) (A0 t.ks) (A9 dc) (A9 dk) (V0 _ (by rw[F4];omega) (I4 _) dc h.dc) (F9 _ (by rw[B7];have:=h.hk;omega) (D3 _) dk h.dk) _ _ _ _ hf0 hf1 hf2 hf3 hdf2 t.xs h.hxb h.hxs h.dx
 have hcl:=F4 t.cs
 rw[show A9 dc=false by rw[hdc];rfl] at hK
 have q0:g0.d=C2 (A9 g0.d) (A0 g0.cs):=(O5 g0.sld).symm
 have q1:g1.d=C2 (A9 g1.d) (A0 g1.cs):=(O5 g1.sld).symm
 have q2:g2.d=C2 (A9 g2.d) (A0 g2.cs):=(O5 g2.sld).symm
 have q3:g3.d=C2 (A9 g3.d) (A0 g3.cs):=(O5 g3.sld).symm
 have hg:(B2 t.cs)[((i:Nat):Int).toNat]?=some [.str co.nm,eI co.k,.bool co.nl]:=O2 hco
 have hg2:(B2 t.cs)[i]?=some [.str co.nm,eI co.k,.bool co.nl]:=O2 hco
 have hmm:=I4 t.cs
 have hilt:i<(B2 t.cs).length:=by rw[hcl];exact(B3.1 hco).1
 have e1:B2 (t.cs.set i ⟨co.nm,2,co.nl⟩)=(B2 t.cs).set i [.str co.nm,eI 2,.bool co.nl]:=by unfold B2;rw[W2]
 rw[e1]
 obtain⟨k,nm,to,⟨cn,ck,cl⟩,⟨vk,vn,vs⟩⟩:=c
 dsimp only at hk
 subst hk
 have hF:Bi.Pure Tryz.prog U5 [eT t.nm dc dk df dx,.d (.str nm)] (.d (eI i)):=hF
 rw[show dF t.fs=C2 false (H6 [g0,g1,g2,g3]) by rw[hfs];rfl]
 generalize B2 t.cs=Cs at hK hcl hg hg2 hmm hilt q0 q1 q2 q3 ⊢
 generalize A0 t.ks=Ks at hK hcl hg hg2 hmm hilt q0 q1 q2 q3 ⊢
 generalize xL (t.xs.map (B9 0))=Xs at hK hcl hg hg2 hmm hilt q0 q1 q2 q3 ⊢
 generalize A9 dk=b2 at hK hcl hg hg2 hmm hilt q0 q1 q2 q3 ⊢
 generalize A0 g0.cs=G0 at hK hcl hg hg2 hmm hilt q0 q1 q2 q3 ⊢
 generalize A9 g0.d=n0 at hK hcl hg hg2 hmm hilt q0 q1 q2 q3 ⊢
 generalize A0 g1.cs=G1 at hK hcl hg hg2 hmm hilt q0 q1 q2 q3 ⊢
 generalize A9 g1.d=n1 at hK hcl hg hg2 hmm hilt q0 q1 q2 q3 ⊢
 generalize A0 g2.cs=G2 at hK hcl hg hg2 hmm hilt q0 q1 q2 q3 ⊢
 generalize A9 g2.d=n2 at hK hcl hg hg2 hmm hilt q0 q1 q2 q3 ⊢
 generalize A0 g3.cs=G3 at hK hcl hg hg2 hmm hilt q0 q1 q2 q3 ⊢
 generalize A9 g3.d=n3 at hK hcl hg hg2 hmm hilt q0 q1 q2 q3 ⊢
 obtain⟨u0,hu0⟩:∃x,x=g0.tb:=⟨_,rfl⟩
 rw[<- hu0] at hK
 obtain⟨u1,hu1⟩:∃x,x=g1.tb:=⟨_,rfl⟩
 rw[<- hu1] at hK
 obtain⟨u2,hu2⟩:∃x,x=g2.tb:=⟨_,rfl⟩
 rw[<- hu2] at hK
 obtain⟨u3,hu3⟩:∃x,x=g3.tb:=⟨_,rfl⟩
 rw[<- hu3] at hK
 refine B5.deepP (Q:=λr os=>r=.tup [.agg [.d (.str t.nm),.arr 5 (Cs.set i [.str co.nm,eI 2,.bool co.nl]).length,.arr 6 Ks.length,.rs 8 4,.arr 9 Xs.length],.d (eI 0)]/\os[5]?=some (.arr (Cs.set i [.str co.nm,eI 2,.bool co.nl]) 3 0 false)/\os[6]?=some (.arr Ks 1 0 b2)/\os[8]?=some (.rarr [[.arr 10 G0.length,.d (.str u0)],[.arr 11 G1.length,.d (.str u1)],[.arr 12 G2.length,.d (.str u2)],[.arr 13 G3.length,.d (.str u3)]] 2 false)/\os[9]?=some (.arr Xs 7 0 Xs.isEmpty)/\os[10]?=some (.arr G0 1 0 n0)/\os[11]?=some (.arr G1 1 0 n1)/\os[12]?=some (.arr G2 1 0 n2)/\os[13]?=some (.arr G3 1 0 n3)) ?_ ?_
 ·refine V2.goO2 A6 rfl ?_
  rw[U4]
  repeat' first|refine st ?_|((with_reducible first|apply A8|apply A7);(·first|exact hC|exact hF))|((with_reducible first|apply I0|apply D7);(·exact hK);(try rintro _ _ ⟨rfl,rfl⟩))|((with_reducible apply I8);(·exact hK))|((with_reducible apply H8);refine st ?_;(with_reducible apply I5);(·exact rfl);refine st ?_;(with_reducible apply D7);(·exact hK);(try rintro _ _ ⟨rfl,rfl⟩))|(with_reducible first|apply A5|apply A4)<;>intro _
  exact⟨rfl,rfl,rfl,rfl,rfl,rfl,rfl,rfl,rfl⟩
 ·rintro r os ⟨rfl,hx0,hx1,hx2,hx3,hx4,hx5,hx6,hx7⟩
  refine V3 (rows:=[[.arr 10 G0.length,.d (.str u0)],[.arr 11 G1.length,.d (.str u1)],[.arr 12 G2.length,.d (.str u2)],[.arr 13 G3.length,.d (.str u3)]]) (fs:=[g0,g1,g2,g3]) (.inl (.inr ⟨5,_,3,0,false,rfl,hx0,rfl⟩)) hx1 hx2 hx3 rfl (λi e g he hg=>?_)
  match i,he,hg with
  |0,he,hg=>cases he;cases hg;exact⟨10,_,n0,by rw[hu0],hx4,q0⟩
  |1,he,hg=>cases he;cases hg;exact⟨11,_,n1,by rw[hu1],hx5,q1⟩
  |2,he,hg=>cases he;cases hg;exact⟨12,_,n2,by rw[hu2],hx6,q2⟩
  |3,he,hg=>cases he;cases hg;exact⟨13,_,n3,by rw[hu3],hx7,q3⟩
  |i+4,he,hg=>simp at he
theorem C0S(t:Tb)(dc dk df dx:D)(h:M6 t dc dk df dx)(c:Ch)(hc:G7 c)(hq:D2 t c=0)(g0 g1 g2 g3:Fo)(hfs:t.fs=[g0,g1,g2,g3])(hk:c.k=2)(i:Nat)(hi:D6 c.nm t.cs=i)(hil:i<t.cs.length)(hdc:dc=.sl (B2 t.cs))(hkb:∀k∈t.ks,0<=k/\k<=1048576)(hfb:∀g∈t.fs,∀k∈g.cs,0<=k/\k<=1048576)(hxb:∀e∈t.xs.map (B9 0),e.bk<=1048576) :
  Pure Tryz.prog R3 [eT t.nm dc dk df dx,c.av] (.tup [eT t.nm (.sl (B2 (t.cs.eraseIdx i))) (C2 (A9 dk) (A0 (t.ks.map λc=>B0 c i))) (dF (t.fs.map (H9 i))) (C2 (xL (t.xs.map (B9 0))).isEmpty (xL ((t.xs.map (B9 0)).map (E3 (H7 t.cs.length i))))),.d (eI 0)]):=by
 have hC:=U3 t dc dk df dx h c hc
 rw[hq] at hC
 have hF:=R8 t.nm t.cs h.hl dc dk df dx h.dc c.nm
 have hl:=h.hl
 have hdf:=h.df
 have hfc:=h.hfc
 rw[hfs] at hdf hfc
 rw[hi] at hF
 have hdf2:df=.sl (R0 [⟨g0.d,A0 g0.cs,A9 g0.d,g0.tb⟩,⟨g1.d,A0 g1.cs,A9 g1.d,g1.tb⟩,⟨g2.d,A0 g2.cs,A9 g2.d,g2.tb⟩,⟨g3.d,A0 g3.cs,A9 g3.d,g3.tb⟩]):=by
  rcases hdf with ⟨_,h2⟩|h2
  ·cases h2
  ·exact h2
 have hf0:(Fi.mk g0.d (A0 g0.cs) (A9 g0.d) g0.tb).ok:=F9 _ (by rw[B7];have:=(hfc g0 (by simp)).1;omega) (D3 _) g0.d g0.sld
 have hf1:(Fi.mk g1.d (A0 g1.cs) (A9 g1.d) g1.tb).ok:=F9 _ (by rw[B7];have:=(hfc g1 (by simp)).1;omega) (D3 _) g1.d g1.sld
 have hf2:(Fi.mk g2.d (A0 g2.cs) (A9 g2.d) g2.tb).ok:=F9 _ (by rw[B7];have:=(hfc g2 (by simp)).1;omega) (D3 _) g2.d g2.sld
 have hf3:(Fi.mk g3.d (A0 g3.cs) (A9 g3.d) g3.tb).ok:=F9 _ (by rw[B7];have:=(hfc g3 (by simp)).1;omega) (D3 _) g3.d g3.sld
 have hK:=A4F t.nm dc dk df dx (B2 t.cs) (A0 t.ks) (A9 dc) (A9 dk) (V0 _ (by rw[F4];omega) (I4 _) dc h.dc) (F9 _ (by rw[B7];have:=h.hk;omega) (D3 _) dk h.dk) _ _ _ _ hf0 hf1 hf2 hf3 hdf2 t.xs h.hxb h.hxs h.dx
 have hcl:=F4 t.cs
 rw[show A9 dc=false by rw[hdc];rfl] at hK
 have hkN:A9 dk=true->t.ks=[]:=λhh=>by
  have:=l4 h.dk hh
  cases hks:t.ks with
  |nil=>rfl
  |cons a l=>rw[hks] at this;cases this
 have hxN:(xL (t.xs.map (B9 0))).isEmpty=true->t.xs.map (B9 0)=[]:=by
  intro hh
  cases hx:t.xs.map (B9 0) with
  |nil=>rfl
  |cons a l=>rw[hx] at hh;cases hh
 have hN0:A9 g0.d=true->g0.cs=[]:=λhh=>by
  have:=l4 g0.sld hh
  cases hks:g0.cs with
  |nil=>rfl
  |cons a l=>rw[hks] at this;cases this
 have hB0:=hfb g0 (by rw[hfs];simp)
 have hN1:A9 g1.d=true->g1.cs=[]:=λhh=>by
  have:=l4 g1.sld hh
  cases hks:g1.cs with
  |nil=>rfl
  |cons a l=>rw[hks] at this;cases this
 have hB1:=hfb g1 (by rw[hfs];simp)
 have hN2:A9 g2.d=true->g2.cs=[]:=λhh=>by
  have:=l4 g2.sld hh
  cases hks:g2.cs with
  |nil=>rfl
  |cons a l=>rw[hks] at this;cases this
 have hB2:=hfb g2 (by rw[hfs];simp)
 have hN3:A9 g3.d=true->g3.cs=[]:=λhh=>by
  have:=l4 g3.sld hh
  cases hks:g3.cs with
  |nil=>rfl
  |cons a l=>rw[hks] at this;cases this
 have hB3:=hfb g3 (by rw[hfs];simp)
 have hD:=λT0 T1 T2 T3 T4 T7=>C1a T0 T1 T2 T3 T4 T7 t.nm (B2 t.cs) (I4 _) i (by rw[hcl];exact hil) (by rw[hcl];exact hl) t.ks hkb h.hk (A9 dk) hkN (t.xs.map (B9 0)) (by rw[D5];exact h.hxs) hxb _ hxN g0.cs (A9 g0.d) g0.tb (hfc g0 (by simp)).1 hB0 hN0 g1.cs (A9 g1.d) g1.tb (hfc g1 (by simp)).1 hB1 hN1 g2.cs (A9 g2.d) g2.tb (hfc g2 (by simp)).1 hB2 hN2 g3.cs (A9 g3.d) g3.tb (hfc g3 (by simp)).1 hB3 hN3
 rw[hcl] at hD
 have hkl2:(A0 (t.ks.map λc=>B0 c i)).length=(A0 t.ks).length:=by rw[B7,B7,D5]
 have hxl2:(xL ((t.xs.map (B9 0)).map (E3 (H7 t.cs.length i)))).length=(xL (t.xs.map (B9 0))).length:=by rw[I6,I6,D5]
 have hkl20:(A0 (g0.cs.map λc=>B0 c i)).length=(A0 g0.cs).length:=by rw[B7,B7,D5]
 have hkl21:(A0 (g1.cs.map λc=>B0 c i)).length=(A0 g1.cs).length:=by rw[B7,B7,D5]
 have hkl22:(A0 (g2.cs.map λc=>B0 c i)).length=(A0 g2.cs).length:=by rw[B7,B7,D5]
 have hkl23:(A0 (g3.cs.map λc=>B0 c i)).length=(A0 g3.cs).length:=by rw[B7,B7,D5]
 have q0:(H9 i g0).d=C2 (A9 g0.d) (A0 (g0.cs.map λc=>B0 c i)):=A13 i g0
 have q1:(H9 i g1).d=C2 (A9 g1.d) (A0 (g1.cs.map λc=>B0 c i)):=A13 i g1
 have q2:(H9 i g2).d=C2 (A9 g2.d) (A0 (g2.cs.map λc=>B0 c i)):=A13 i g2
 have q3:(H9 i g3).d=C2 (A9 g3.d) (A0 (g3.cs.map λc=>B0 c i)):=A13 i g3
 have e1:B2 (t.cs.eraseIdx i)=(B2 t.cs).eraseIdx i:=A3Z _ _
 rw[e1]
 obtain⟨k,nm,to,⟨cn,ck,cl⟩,⟨vk,vn,vs⟩⟩:=c
 dsimp only at hk
 subst hk
 have hF:Bi.Pure Tryz.prog U5 [eT t.nm dc dk df dx,.d (.str nm)] (.d (eI i)):=hF
 rw[show dF (t.fs.map (H9 i))=C2 false (H6 [H9 i g0,H9 i g1,H9 i g2,H9 i g3]) by rw[hfs];rfl]
 rw[hcl] at hK
 generalize A0 (t.ks.map λc=>B0 c i)=K2 at hK hcl hkl2 hxl2 hkl20 hkl21 hkl22 hkl23 q0 q1 q2 q3 hD ⊢
 generalize xL ((t.xs.map (B9 0)).map (E3 (H7 t.cs.length i)))=X2 at hK hcl hkl2 hxl2 hkl20 hkl21 hkl22 hkl23 q0 q1 q2 q3 hD ⊢
 generalize (B2 t.cs).eraseIdx i=E2 at hK hcl hkl2 hxl2 hkl20 hkl21 hkl22 hkl23 q0 q1 q2 q3 hD ⊢
 generalize A0 (g0.cs.map λc=>B0 c i)=H0 at hK hcl hkl2 hxl2 hkl20 hkl21 hkl22 hkl23 q0 q1 q2 q3 hD ⊢
 generalize A0 (g1.cs.map λc=>B0 c i)=H1 at hK hcl hkl2 hxl2 hkl20 hkl21 hkl22 hkl23 q0 q1 q2 q3 hD ⊢
 generalize A0 (g2.cs.map λc=>B0 c i)=H2 at hK hcl hkl2 hxl2 hkl20 hkl21 hkl22 hkl23 q0 q1 q2 q3 hD ⊢
 generalize A0 (g3.cs.map λc=>B0 c i)=H3 at hK hcl hkl2 hxl2 hkl20 hkl21 hkl22 hkl23 q0 q1 q2 q3 hD ⊢
 generalize B2 t.cs=Cs at hK hcl hkl2 hxl2 hkl20 hkl21 hkl22 hkl23 q0 q1 q2 q3 hD ⊢
 generalize A0 t.ks=Ks at hK hcl hkl2 hxl2 hkl20 hkl21 hkl22 hkl23 q0 q1 q2 q3 hD ⊢
 generalize xL (t.xs.map (B9 0))=Xs at hK hcl hkl2 hxl2 hkl20 hkl21 hkl22 hkl23 q0 q1 q2 q3 hD ⊢
 generalize A9 dk=b2 at hK hcl hkl2 hxl2 hkl20 hkl21 hkl22 hkl23 q0 q1 q2 q3 hD ⊢
 generalize A0 g0.cs=G0 at hK hcl hkl2 hxl2 hkl20 hkl21 hkl22 hkl23 q0 q1 q2 q3 hD ⊢
 generalize A9 g0.d=n0 at hK hcl hkl2 hxl2 hkl20 hkl21 hkl22 hkl23 q0 q1 q2 q3 hD ⊢
 generalize A0 g1.cs=G1 at hK hcl hkl2 hxl2 hkl20 hkl21 hkl22 hkl23 q0 q1 q2 q3 hD ⊢
 generalize A9 g1.d=n1 at hK hcl hkl2 hxl2 hkl20 hkl21 hkl22 hkl23 q0 q1 q2 q3 hD ⊢
 generalize A0 g2.cs=G2 at hK hcl hkl2 hxl2 hkl20 hkl21 hkl22 hkl23 q0 q1 q2 q3 hD ⊢
 generalize A9 g2.d=n2 at hK hcl hkl2 hxl2 hkl20 hkl21 hkl22 hkl23 q0 q1 q2 q3 hD ⊢
 generalize A0 g3.cs=G3 at hK hcl hkl2 hxl2 hkl20 hkl21 hkl22 hkl23 q0 q1 q2 q3 hD ⊢
 generalize A9 g3.d=n3 at hK hcl hkl2 hxl2 hkl20 hkl21 hkl22 hkl23 q0 q1 q2 q3 hD ⊢
 obtain⟨u0,hu0⟩:∃x,x=g0.tb:=⟨_,rfl⟩
 rw[<- hu0] at hK
 simp only[<- hu0] at hD
 obtain⟨u1,hu1⟩:∃x,x=g1.tb:=⟨_,rfl⟩
 rw[<- hu1] at hK
 simp only[<- hu1] at hD
 obtain⟨u2,hu2⟩:∃x,x=g2.tb:=⟨_,rfl⟩
 rw[<- hu2] at hK
 simp only[<- hu2] at hD
 obtain⟨u3,hu3⟩:∃x,x=g3.tb:=⟨_,rfl⟩
 rw[<- hu3] at hK
 simp only[<- hu3] at hD
 refine B5.deepP (Q:=λr os=>r=.tup [.agg [.d (.str t.nm),.d (.sl E2),.arr 6 K2.length,.rs 8 4,.arr 9 X2.length],.d (eI 0)]/\os[6]?=some (.arr K2 1 0 b2)/\os[8]?=some (.rarr [[.arr 10 H0.length,.d (.str u0)],[.arr 11 H1.length,.d (.str u1)],[.arr 12 H2.length,.d (.str u2)],[.arr 13 H3.length,.d (.str u3)]] 2 false)/\os[9]?=some (.arr X2 7 0 Xs.isEmpty)/\os[10]?=some (.arr H0 1 0 n0)/\os[11]?=some (.arr H1 1 0 n1)/\os[12]?=some (.arr H2 1 0 n2)/\os[13]?=some (.arr H3 1 0 n3)) ?_ ?_
 ·rw[hkl2,hxl2]
  rw[hkl20,hkl21,hkl22,hkl23]
  refine V2.goO2 A6 rfl ?_
  repeat' first|refine st ?_|((with_reducible first|apply A8|apply A7);(·first|exact hC|exact hF))|((with_reducible first|apply I0|apply D7);(·first|exact hK|exact hD _ _ _ _ _ _);(try rintro _ _ ⟨rfl,rfl⟩))|((with_reducible apply I8);(·first|exact hK|exact hD _ _ _ _ _ _))|((with_reducible apply H8);refine st ?_;(with_reducible apply I5);(·exact rfl);refine st ?_;(with_reducible apply D7);(·first|exact hK|exact hD _ _ _ _ _ _);(try rintro _ _ ⟨rfl,rfl⟩))|(with_reducible first|apply A5|apply A4)<;>intro _
  exact⟨rfl,rfl,rfl,rfl,rfl,rfl,rfl,rfl⟩
 ·rintro r os ⟨rfl,hx0,hx1,hx2,hx3,hx4,hx5,hx6⟩
  refine V3 (rows:=[[.arr 10 H0.length,.d (.str u0)],[.arr 11 H1.length,.d (.str u1)],[.arr 12 H2.length,.d (.str u2)],[.arr 13 H3.length,.d (.str u3)]]) (fs:=[H9 i g0,H9 i g1,H9 i g2,H9 i g3]) (.inl (.inl rfl)) hx0 hx1 hx2 rfl (λi e g he hg=>?_)
  match i,he,hg with
  |0,he,hg=>cases he;cases hg;exact⟨10,_,n0,by rw[hu0];rfl,hx3,q0⟩
  |1,he,hg=>cases he;cases hg;exact⟨11,_,n1,by rw[hu1];rfl,hx4,q1⟩
  |2,he,hg=>cases he;cases hg;exact⟨12,_,n2,by rw[hu2];rfl,hx5,q2⟩
  |3,he,hg=>cases he;cases hg;exact⟨13,_,n3,by rw[hu3];rfl,hx6,q3⟩
  |i+4,he,hg=>simp at he
end Go.Proofs
end
section
namespace Go.Proofs
open Go.Bi
theorem A7H{t:Tb}{i:Nat}{co:Co}(h:t.cs[i]?=some co):t.cs.getD i ⟨[],0,false⟩=co:=by
 rw[E7,h];rfl
theorem D0C{t:Tb}{dc dk df dx:D}(h:M6 t dc dk df dx){c:Ch}(hc:G7 c)(hv:Vd t)(b:Bool)(hb:b=true->t.xs=[]) :
  M6 (D9 t c) (.sl (B2 (D9 t c).cs)) (C2 (A9 dk) (A0 (D9 t c).ks)) (dF (D9 t c).fs) (C2 b (xL (D9 t c).xs)):=by
 have hF:∀l:List Fo,B8 (dF l) (H6 l):=λl=>p9 λe=>by
  cases l with
  |nil=>rfl
  |cons a r=>cases e
 have hK:A9 dk=true->t.ks=[]:=λe=>by
  have:=l4 h.dk e
  cases hks:t.ks with
  |nil=>rfl
  |cons a l=>rw[hks] at this;cases this
 have hl:=hv.l2
 have hkd:∀i,(t.cs.getD i ⟨[],0,false⟩).nm.length<=1048576:=λi=>by
  rw[E7]
  cases hh:t.cs[i]? with
  |none=>simp
  |some x=>exact h.hls x (C4 hh)
 have hset:∀i (n:Co),n.nm.length<=1048576->∀x∈t.cs.set i n,x.nm.length<=1048576:=λi n hn x hx=>by
  rcases A8S hx with hx|rfl
  ·exact h.hls x hx
  ·exact hn
 unfold D9
 split
 ·refine⟨h.hn,by rw[K4];simp;omega,λx hx=>?_,h.hk,h.hfl,h.hfc,by rw[D5];exact h.hxs,λe he=>?_,O6,p9 λe=>by rw[hK e];rfl,hF _,p9 λe=>by rw[hb e];rfl⟩
  ·rcases R9.1 hx with hx|hx
   ·exact h.hls x hx
   ·cases A0X.1 hx;exact hc.cn
  ·obtain⟨a,ha,rfl⟩:=F1.1 he
   exact O9 (A5t a) (h.hxb a ha)
 ·split
  ·refine⟨h.hn,O9 (List.length_eraseIdx_le ..) (by omega),λx hx=>h.hls x (A8R hx),by rw[D5];exact h.hk,by rw[D5];exact h.hfl,λf hf=>?_,by rw[D5];exact h.hxs,λe he=>?_,O6,p9 λe=>by rw[hK e];rfl,hF _,p9 λe=>by rw[hb e];rfl⟩
   ·obtain⟨g,hg,rfl⟩:=F1.1 hf
    exact⟨by unfold H9;rw[D5];exact(h.hfc g hg).1,(h.hfc g hg).2⟩
   ·obtain⟨a,ha,rfl⟩:=F1.1 he
    exact O9 (D08 _ a) (h.hxb a ha)
  ·have hx1:∀e∈t.xs.map F3,e.bk<=1048576:=λe he=>by
    obtain⟨a,ha,rfl⟩:=F1.1 he
    exact O9 (A5t a) (h.hxb a ha)
   split
   ·exact⟨h.hn,by rw[U4];omega,hset _ _ hc.to,h.hk,h.hfl,h.hfc,by rw[D5];exact h.hxs,hx1,O6,p9 λe=>by rw[hK e];rfl,hF _,p9 λe=>by rw[hb e];rfl⟩
   ·exact⟨h.hn,by rw[U4];omega,hset _ _ (hkd _),h.hk,h.hfl,h.hfc,by rw[D5];exact h.hxs,hx1,O6,p9 λe=>by rw[hK e];rfl,hF _,p9 λe=>by rw[hb e];rfl⟩
theorem C0s{t:Tb}(hr:t.Rg):t.xs.map (B9 0)=t.xs.map F3:=A7Q λa ha=>B9I a (hr a ha)
theorem A5L{α:Type}{l:List α}(h:l.length<=4):l=[]\/(∃a,l=[a])\/(∃a b,l=[a,b])\/(∃a b c,l=[a,b,c])\/∃a b c d,l=[a,b,c,d]:=by
 match l,h with
 |[],_=>exact .inl rfl
 |[a],_=>exact .inr (.inl ⟨a,rfl⟩)
 |[a,b],_=>exact .inr (.inr (.inl ⟨a,b,rfl⟩))
 |[a,b,c],_=>exact .inr (.inr (.inr (.inl ⟨a,b,c,rfl⟩)))
 |[a,b,c,d],_=>exact .inr (.inr (.inr (.inr ⟨a,b,c,d,rfl⟩)))
 |_::_::_::_::_::_,h=>simp at h
theorem B05{t:Tb}{dc dk df dx:D}(h:M6 t dc dk df dx)(hv:Vd t):dc=.sl (B2 t.cs):=by
 rcases h.dc with ⟨_,h2⟩|h2
 ·have:=hv.l1
  cases hcs:t.cs with
  |nil=>rw[hcs] at this;simp at this
  |cons a l=>rw[hcs] at h2;cases h2
 ·exact h2
theorem B8N{α:Type}{x:α}:∀{l:List α}{i:Nat},l.Nodup->¬x∈l->(l.set i x).Nodup
 |[],_,_,_=>by simp
 |a::l,0,h,hx=>by
  rw[A2a] at h
  rw[List.set_cons_zero,A2a]
  exact⟨λhm=>hx (by simp[hm]),h.2⟩
 |a::l,i+1,h,hx=>by
  rw[A2a] at h
  rw[List.set_cons_succ,A2a]
  refine⟨λhm=>?_,B8N h.2 λhm=>hx (by simp[hm])⟩
  rcases A8S hm with hm|rfl
  ·exact h.1 hm
  ·exact hx (by simp)
theorem B8M{α β:Type}{f:α->β}:∀{l:List α},(∀a∈l,∀b∈l,f a=f b->a=b)->l.Nodup->(l.map f).Nodup
 |[],_,_=>by simp
 |a::l,hf,h=>by
  rw[A2a] at h
  rw[Q3,A2a]
  refine⟨λhm=>?_,B8M (λx hx y hy=>hf x (by simp[hx]) y (by simp[hy])) h.2⟩
  obtain⟨b,hb,e⟩:=F1.1 hm
  have:=hf b (by simp[hb]) a (by simp) e
  subst this
  exact h.1 hb
theorem B99{f:Int->Int}:∀{l:List Int},(∀a∈l,∀b∈l,a<b->f a<f b)->l.Pairwise (·<·)->(l.map f).Pairwise (·<·)
 |[],_,_=>by simp
 |a::l,hf,h=>by
  rw[A2b] at h
  rw[Q3,A2b]
  refine⟨λb hb=>?_,B99 (λx hx y hy=>hf x (by simp[hx]) y (by simp[hy])) h.2⟩
  obtain⟨y,hy,rfl⟩:=F1.1 hb
  exact hf a (by simp) y (by simp[hy]) (h.1 y hy)
theorem C8Y{i:Nat}{a b:Int}(ha:a≠i)(hb:b≠i)(h:a<b):B0 a i<B0 b i:=by unfold B0;split<;>split<;>omega
theorem C8X{i:Nat}{a b:Int}(ha:a≠i)(hb:b≠i)(h:B0 a i=B0 b i):a=b:=by unfold B0 at h;split at h<;>split at h<;>omega
theorem B6E{i n:Nat}{a:Int}(hi:i<n)(ha:a≠i)(h0:0<=a)(h1:a<n):0<=B0 a i/\B0 a i<((n-1:Nat):Int):=by unfold B0;split<;>omega
theorem C9L(l:List Co)(i:Nat){n:Int}(h0:0<=n)(hne:n≠i):(l.eraseIdx i).getD (B0 n i).toNat ⟨[],0,false⟩=l.getD n.toNat ⟨[],0,false⟩:=by
 rw[E7,E7,A3C]
 unfold B0
 by_cases h:(i:Int)<n
 ·rw[if_pos h,if_neg (by omega)]
  congr 2
  omega
 ·rw[if_neg h,if_pos (by omega)]
theorem B7I{t:Tb}(h:K8 t=0){nm:List UInt8}(hf:D6 nm t.cs<0):¬nm∈t.cs.map Co.nm:=by
 intro hm
 obtain⟨c,hc,rfl⟩:=F1.1 hm
 obtain⟨i,hi⟩:=A1A.1 hc
 rw[D0G (B9R h).2.1 hi] at hf
 omega
theorem A45{t:Tb}{c:Ch}(h:D2 t c=0):Vd (D9 t c):=by
 obtain⟨q1,q2,q3,q4,q5⟩:=k8 h
 have hv:=r6.1 q1
 have hcp:∀ks,(∀x∈t.xs,F6 ks x=F6 (kd t.cs) x)->∀x∈t.xs.map F3,L8 x<=24/\(F6 ks x).2=0/\((F6 ks x).1=3\/(F6 ks x).1=0):=λks hk x hx=>by
  obtain⟨a,ha,rfl⟩:=F1.1 hx
  rw[B7a,B79,hk a ha]
  exact hv.xs a ha
 by_cases k1:c.k=1
 ·obtain⟨a1,a2,a3,a4,_⟩:=B6p (q4 k1)
  have e:D9 t c=⟨t.nm,t.cs++[c.co],t.ks,t.fs,t.xs.map F3⟩:=by unfold D9;rw[if_pos k1]
  rw[e]
  refine⟨hv.nm,by rw[K4];simp,by rw[K4];simp;omega,λx hx=>?_,?_,hv.k0,λk hk=>?_,hv.ka,hv.fl,λf hf=>?_,by rw[D5];exact hv.xl,?_⟩
  ·rcases R9.1 hx with hx|hx
   ·exact hv.co x hx
   ·cases A0X.1 hx;exact⟨a2,a3⟩
  ·rw[A4V,List.map_singleton,List.nodup_append]
   refine⟨hv.nd,by simp,λa ha b hb=>?_⟩
   cases A0X.1 hb
   intro e
   subst e
   exact B7I q1 a4 ha
  ·obtain⟨b1,b2,b3⟩:=hv.ks k hk
   refine⟨b1,by rw[K4];simp;omega,?_⟩
   rw[E7,J7 (by omega),<- E7]
   exact b3
  ·obtain⟨b1,b2,b3,b4⟩:=hv.fs f hf
   exact⟨b1,b2,λk hk=>by have:=b3 k hk;rw[K4];simp;omega,b4⟩
  ·have ek:kd (t.cs++[c.co])=kd t.cs++[c.co.k]:=by simp[kd]
   dsimp only
   rw[ek]
   exact hcp _ λx hx=>C9E _ x (hv.xs x hx).2.1
 ·obtain⟨i,co,hi,hco,hcn,hus,h4,h3⟩:=x9 (q5 k1)
  have hil:=(B3.1 hco).1
  have hiN:(D6 c.nm t.cs).toNat=i:=by omega
  have hgd:t.cs.getD i ⟨[],0,false⟩=co:=by rw[E7,hco];rfl
  by_cases k2:c.k=2
  ·have e:D9 t c=⟨t.nm,t.cs.eraseIdx i,t.ks.map (λx=>B0 x i),t.fs.map (H9 i),t.xs.map (M8 i)⟩:=by unfold D9;rw[if_neg k1,if_pos k2,hiN]
   have hu:=hus (by omega)
   unfold Z1 at hu
   simp only[R9,not_or] at hu
   have u1:∀k∈t.ks,k≠i:=λk hk e=>hu.1.1 (e▸hk)
   have u2:∀f∈t.fs,∀k∈f.cs,k≠i:=λf hf k hk e=>hu.1.2 (A3E.2 ⟨f,hf,e▸hk⟩)
   have u3:∀x∈t.xs,¬(i:Int)∈K6 x:=λx hx hm=>hu.2 (A3E.2 ⟨x,hx,(A7p x i).2 hm⟩)
   have hlen:(t.cs.eraseIdx i).length=t.cs.length-1:=by rw[A0V,if_pos hil]
   have hk2:∀k∈t.ks,0<=B0 k i/\B0 k i<(t.cs.eraseIdx i).length:=λk hk=>by
    obtain⟨b1,b2,b3⟩:=hv.ks k hk
    rw[hlen]
    exact B6E hil (u1 k hk) b1 b2
   have hl1:=hv.l2
   rw[e]
   refine⟨hv.nm,?_,by rw[hlen];omega,λx hx=>hv.co x (A8R hx),?_,λe=>hv.k0 (List.map_eq_nil_iff.1 e),λk hk=>?_,?_,by rw[D5];exact hv.fl,λf hf=>?_,by rw[D5];exact hv.xl,λx hx=>?_⟩
   ·obtain⟨k,hk⟩:=List.exists_mem_of_ne_nil _ hv.k0
    have:=hk2 k hk
    dsimp only
    omega
   ·dsimp only
    rw[A7P]
    exact hv.nd.sublist (List.eraseIdx_sublist ..)
   ·obtain⟨a,ha,rfl⟩:=F1.1 hk
    obtain⟨b1,b2,b3⟩:=hv.ks a ha
    refine⟨(hk2 a ha).1,(hk2 a ha).2,?_⟩
    dsimp only
    rw[C9L _ _ b1 (u1 a ha)]
    exact b3
   ·exact B99 (λa ha b hb hab=>C8Y (u1 a ha) (u1 b hb) hab) hv.ka
   ·obtain⟨g,hg,rfl⟩:=F1.1 hf
    obtain⟨b1,b2,b3,b4⟩:=hv.fs g hg
    refine⟨b1,λe=>b2 (List.map_eq_nil_iff.1 e),λk hk=>?_,B8M (λa ha b hb e=>C8X (u2 g hg a ha) (u2 g hg b hb) e) b4⟩
    obtain⟨a,ha,rfl⟩:=F1.1 hk
    dsimp only
    rw[hlen]
    exact B6E hil (u2 g hg a ha) (b3 a ha).1 (b3 a ha).2
   ·obtain⟨a,ha,rfl⟩:=F1.1 hx
    have ek:kd (t.cs.eraseIdx i)=(kd t.cs).eraseIdx i:=A7P _ _ _
    dsimp only
    rw[ek,D0a,C9D (by rw[O3];exact hil) a (hv.xs a ha).2.1 (u3 a ha)]
    exact hv.xs a ha
  ·have hset:∀n:Co,n.nl=co.nl->(K7 n.nm=true/\1<=n.k/\n.k<=3)->((t.cs.set i n).map Co.nm).Nodup->(∀x∈t.xs,F6 (kd (t.cs.set i n)) x=F6 (kd t.cs) x)->Vd ⟨t.nm,t.cs.set i n,t.ks,t.fs,t.xs.map F3⟩:=by
    intro n hn1 hn2 hn3 hn4
    refine⟨hv.nm,by rw[U4];exact hv.l1,by rw[U4];exact hv.l2,λx hx=>?_,hn3,hv.k0,λk hk=>?_,hv.ka,hv.fl,λf hf=>?_,by rw[D5];exact hv.xl,hcp _ hn4⟩
    ·rcases A8S hx with hx|rfl
     ·exact hv.co x hx
     ·exact hn2
    ·obtain⟨b1,b2,b3⟩:=hv.ks k hk
     refine⟨b1,by rw[U4];exact b2,?_⟩
     by_cases hki:k.toNat=i
     ·dsimp only
      rw[E7,hki,A05 hil,j6,hn1]
      rw[hki,hgd] at b3
      exact b3
     ·dsimp only
      rw[E7,P2 (λe=>hki e.symm),<- E7]
      exact b3
    ·obtain⟨b1,b2,b3,b4⟩:=hv.fs f hf
     exact⟨b1,b2,λk hk=>by have:=b3 k hk;rw[U4];exact this,b4⟩
   have hcm:=hv.co co (C4 hco)
   by_cases k3:c.k=3
   ·have e:D9 t c=⟨t.nm,t.cs.set i ⟨c.to,co.k,co.nl⟩,t.ks,t.fs,t.xs.map F3⟩:=by unfold D9;rw[if_neg k1,if_neg k2,if_pos k3,hiN,hgd]
    rw[e]
    refine hset ⟨c.to,co.k,co.nl⟩ rfl ⟨(h3 k3).1,hcm.2⟩ ?_ λx hx=>?_
    ·rw[W2]
     exact B8N hv.nd (B7I q1 (h3 k3).2)
    ·congr 1
     unfold kd
     rw[W2]
     refine A2H λj=>?_
     by_cases hj:i=j
     ·subst hj
      rw[A05 (by rw[D5];exact hil),G4,hco];rfl
     ·rw[P2 hj]
   ·have k4:c.k=4:=by omega
    have e:D9 t c=⟨t.nm,t.cs.set i ⟨co.nm,2,co.nl⟩,t.ks,t.fs,t.xs.map F3⟩:=by unfold D9;rw[if_neg k1,if_neg k2,if_neg k3,hiN,hgd]
    have hu:=hus (by omega)
    unfold Z1 at hu
    simp only[R9,not_or] at hu
    have u3:∀x∈t.xs,¬(i:Int)∈K6 x:=λx hx hm=>hu.2 (A3E.2 ⟨x,hx,(A7p x i).2 hm⟩)
    rw[e]
    refine hset ⟨co.nm,2,co.nl⟩ rfl ⟨hcm.1,(by decide:(1:Int)<=2),(by decide:(2:Int)<=3)⟩ ?_ λx hx=>?_
    ·have:(t.cs.set i ⟨co.nm,2,co.nl⟩).map Co.nm=t.cs.map Co.nm:=by
      rw[W2]
      refine A2H λj=>?_
      by_cases hj:i=j
      ·subst hj
       rw[A05 (by rw[D5];exact hil),G4,hco];rfl
      ·rw[P2 hj]
     rw[this]
     exact hv.nd
    ·have ek:kd (t.cs.set i ⟨co.nm,2,co.nl⟩)=(kd t.cs).set i 2:=by unfold kd;rw[W2]
     rw[ek]
     exact C9F 2 x (u3 x hx)
def R6(t:Tb)(c:Ch)(k:Int):Int:=
 if D2 t c≠0\/k<0\/(t.cs.length:Int)<=k then -1 else if c.k≠2 then k else if D6 c.nm t.cs=k then -1 else B0 k (D6 c.nm t.cs)
theorem C1e(t:Tb)(dc dk df dx:D)(h:M6 t dc dk df dx)(c:Ch)(hc:G7 c)(k:Int):Pure Tryz.prog B5A [eT t.nm dc dk df dx,c.av,.d (eI k)] (.d (eI (R6 t c k))):=by
 have hC:=U3 t dc dk df dx h c hc
 have hF:=R8 t.nm t.cs h.hl dc dk df dx h.dc c.nm
 have hl:=h.hl
 have hdc:=h.dc
 have hcl:=F4 t.cs
 obtain⟨q,hq⟩:∃q,q=R6 t c k:=⟨_,rfl⟩
 rw[<- hq]
 unfold R6 at hq
 obtain⟨e,he⟩:∃e,e=D2 t c:=⟨_,rfl⟩
 rw[<- he] at hC hq
 obtain⟨f,hf⟩:∃f,f=D6 c.nm t.cs:=⟨_,rfl⟩
 rw[<- hf] at hF hq
 obtain⟨n,hn⟩:∃n,n=t.cs.length:=⟨_,rfl⟩
 rw[<- hn] at hcl hl hq
 obtain⟨Cs,hCs⟩:∃x,x=B2 t.cs:=⟨_,rfl⟩
 rw[<- hCs] at hcl hdc
 clear h hf he hn hCs
 obtain⟨ck,nm,to,⟨cn,cck,cl⟩,⟨vk,vn,vs⟩⟩:=c
 dsimp only at hq hF hC
 by_cases g1:e≠0\/k<0\/(n:Int)<=k
 ·rw[if_pos g1] at hq
  subst hq
  by_cases g2:e=0
  rotate_left
  ·refine A3z.go A6 rfl ?_
   repeat' first|refine st ?_|((with_reducible apply C7);conv=>whnf)|((with_reducible first|apply A8|apply A7);(·exact hC))|(with_reducible first|apply A5|apply A4)<;>intro _
   all_goals rfl
  by_cases g3:k<0
  ·refine A3z.go A6 rfl ?_
   repeat' first|refine st ?_|((with_reducible apply C7);conv=>whnf)|((with_reducible first|apply A8|apply A7);(·exact hC))|(with_reducible first|apply A5|apply A4)<;>intro _
   all_goals rfl
  have g4:(n:Int)<=k:=by omega
  refine A3z.go A6 rfl ?_
  repeat' first|refine st ?_|((with_reducible apply C7);conv=>whnf)|((with_reducible first|apply A8|apply A7);(·exact hC))|(with_reducible first|apply A5|apply A4)<;>intro _
  all_goals rfl
 ·rw[if_neg g1] at hq
  have g2:e=0:=by omega
  have g3:0<=k:=by omega
  have g4:k<n:=by omega
  subst g2
  by_cases g5:ck=2
  rotate_left
  ·rw[if_pos g5] at hq
   subst hq
   refine A3z.go A6 rfl ?_
   repeat' first|refine st ?_|((with_reducible apply C7);conv=>whnf)|((with_reducible first|apply A8|apply A7);(·exact hC))|(with_reducible first|apply A5|apply A4)<;>intro _
   all_goals rfl
  subst g5
  rw[if_neg (by decide)] at hq
  by_cases g6:f=k
  ·rw[if_pos g6] at hq
   subst hq
   refine A3z.go A6 rfl ?_
   repeat' first|refine st ?_|((with_reducible apply C7);conv=>whnf)|((with_reducible first|apply A8|apply A7);(·first|exact hC|exact hF))|(with_reducible first|apply A5|apply A4)<;>intro _
   all_goals rfl
  ·rw[if_neg g6] at hq
   have hB:=V1 k f (by omega) (by omega)
   rw[<- hq] at hB
   refine A3z.go A6 rfl ?_
   repeat' first|refine st ?_|((with_reducible apply C7);conv=>whnf)|((with_reducible first|apply A8|apply A7);(·first|exact hC|exact hF|exact hB))|(with_reducible first|apply A5|apply A4)<;>intro _
   all_goals rfl
structure TD where
 t:Tb
 dc:D
 dk:D
 df:D
 dx:D
abbrev TD.av(x:TD):AV:=eT x.t.nm x.dc x.dk x.df x.dx
structure TD.ok(x:TD):Prop where
 tok:M6 x.t x.dc x.dk x.df x.dx
 rg:x.t.Rg
def r9:TD:=⟨⟨[],[],[],[],[]⟩,.nil,.nil,.nil,.nil⟩
theorem B1D:r9.ok:=⟨⟨by decide,by decide,by decide,by decide,by decide,λf hf=>by simp[r9] at hf,by decide,λe he=>by simp[r9] at he,A20,A20,A20,A20⟩,λe he=>by simp[r9] at he⟩
def slX(l:List Ex):D:=C2 (xL l).isEmpty (xL l)
theorem D39(l:List Ex):B8 (slX l) (xL l):=p9 λe=>A2L.1 e
theorem C9X(l:List Fo):B8 (dF l) (H6 l):=p9 λe=>by
 cases l with
 |nil=>rfl
 |cons a r=>cases e
def TD.cp(x:TD):TD:=⟨⟨x.t.nm,x.t.cs,x.t.ks,x.t.fs,x.t.xs.map F3⟩,x.dc,x.dk,dF x.t.fs,slX (x.t.xs.map F3)⟩
theorem TD.cp_ok{x:TD}(h:x.ok):x.cp.ok:=by
 obtain⟨h,hr⟩:=h
 refine⟨⟨h.hn,h.hl,h.hls,h.hk,h.hfl,h.hfc,by show(x.t.xs.map F3).length<=_;rw[D5];exact h.hxs,λe he=>?_,h.dc,h.dk,C9X _,D39 _⟩,λe he=>?_⟩
 ·obtain⟨a,ha,rfl⟩:=F1.1 he
  exact O9 (A5t a) (h.hxb a ha)
 ·obtain⟨a,ha,rfl⟩:=F1.1 he
  exact B04 a (hr a ha)
theorem B0N(x:TD):nf x.cp.t=nf x.t:=by
 unfold nf TD.cp
 dsimp only
 rw[A0m (h:=F3) λa ha=>B03 a]
def TD.evo(x:TD)(c:Ch):TD:=⟨D9 x.t c,.sl (B2 (D9 x.t c).cs),C2 (A9 x.dk) (A0 (D9 x.t c).ks),dF (D9 x.t c).fs,slX (D9 x.t c).xs⟩
theorem TD.evo_ok{x:TD}(h:x.ok){c:Ch}(hc:G7 c)(hq:D2 x.t c=0):(x.evo c).ok:=by
 have hx:slX (D9 x.t c).xs=C2 (xL (x.t.xs.map F3)).isEmpty (xL (D9 x.t c).xs):=by
  unfold slX
  congr 1
  unfold D9
  split
  ·rfl
  ·split
   ·cases x.t.xs<;>rfl
   ·split<;>rfl
 have hb:(xL (x.t.xs.map F3)).isEmpty=true->x.t.xs=[]:=λe=>by
  cases hxs:x.t.xs with
  |nil=>rfl
  |cons a l=>rw[hxs] at e;cases e
 refine⟨?_,D0B h.rg c⟩
 unfold TD.evo
 dsimp only
 rw[hx]
 exact D0C h.tok hc (r6.1 (k8 hq).1) _ hb
theorem C1c(x:TD)(h:x.ok)(c:Ch)(hc:G7 c)(hq:D2 x.t c=0):Pure Tryz.prog R3 [x.av,c.av] (.tup [(x.evo c).av,.d (eI 0)]):=by
 obtain⟨t,dc,dk,df,dx⟩:=x
 obtain⟨h,hr⟩:=h
 dsimp only at h hr hq
 obtain⟨q1,q2,q3,q4,q5⟩:=k8 hq
 have hv:=r6.1 q1
 have hdc:=B05 h hv
 have hx:=C0s hr
 have hnm:(D9 t c).nm=t.nm:=by unfold D9;split;rfl;split;rfl;split<;>rfl
 have he:slX (D9 t c).xs=C2 (xL (t.xs.map (B9 0))).isEmpty (xL (D9 t c).xs):=by
  rw[hx]
  unfold slX
  congr 1
  unfold D9
  split
  ·rfl
  ·split
   ·cases t.xs<;>rfl
   ·split<;>rfl
 unfold TD.av TD.evo
 dsimp only
 rw[hnm,he]
 by_cases k1:c.k=1
 ·have e:D9 t c=⟨t.nm,t.cs++[c.co],t.ks,t.fs,t.xs.map F3⟩:=by unfold D9;rw[if_pos k1]
  rw[e,<- hx]
  rcases A5L hv.fl with hf|⟨a0,hf⟩|⟨a0,a1,hf⟩|⟨a0,a1,a2,hf⟩|⟨a0,a1,a2,a3,hf⟩
  ·exact C0B t dc dk df dx h c hc hq hf k1
  ·exact C0F t dc dk df dx h c hc hq a0 hf k1
  ·exact C0J t dc dk df dx h c hc hq a0 a1 hf k1
  ·exact C0N t dc dk df dx h c hc hq a0 a1 a2 hf k1
  ·exact C0R t dc dk df dx h c hc hq a0 a1 a2 a3 hf k1
 ·obtain⟨i,co,hi,hco,hcn,hus,_,_⟩:=x9 (q5 k1)
  have hil:=(B3.1 hco).1
  have hiN:(D6 c.nm t.cs).toNat=i:=by omega
  by_cases k2:c.k=2
  ·have e:D9 t c=⟨t.nm,t.cs.eraseIdx i,t.ks.map (λx=>B0 x i),t.fs.map (H9 i),t.xs.map (M8 i)⟩:=by unfold D9;rw[if_neg k1,if_pos k2,hiN]
   have hxd:(t.xs.map (B9 0)).map (E3 (H7 t.cs.length i))=t.xs.map (M8 i):=by
    rw[hx]
    exact A0m λa ha=>D3g i (O3 _) a (hv.xs a ha).2.1
   rw[e,<- hxd]
   have b1:∀k∈t.ks,0<=k/\k<=1048576:=λk hk=>by have:=hv.ks k hk;have:=hv.l2;omega
   have b2:∀g∈t.fs,∀k∈g.cs,0<=k/\k<=1048576:=λg hg k hk=>by have:=(hv.fs g hg).2.2.1 k hk;have:=hv.l2;omega
   have b3:∀e∈t.xs.map (B9 0),e.bk<=1048576:=λe he=>by
    rw[hx] at he
    obtain⟨a,ha,rfl⟩:=F1.1 he
    exact O9 (A5t a) (h.hxb a ha)
   rcases A5L hv.fl with hf|⟨a0,hf⟩|⟨a0,a1,hf⟩|⟨a0,a1,a2,hf⟩|⟨a0,a1,a2,a3,hf⟩
   ·exact C0C t dc dk df dx h c hc hq hf k2 i hi hil hdc b1 b2 b3
   ·exact C0G t dc dk df dx h c hc hq a0 hf k2 i hi hil hdc b1 b2 b3
   ·exact C0K t dc dk df dx h c hc hq a0 a1 hf k2 i hi hil hdc b1 b2 b3
   ·exact C0O t dc dk df dx h c hc hq a0 a1 a2 hf k2 i hi hil hdc b1 b2 b3
   ·exact C0S t dc dk df dx h c hc hq a0 a1 a2 a3 hf k2 i hi hil hdc b1 b2 b3
  ·by_cases k3:c.k=3
   ·have e:D9 t c=⟨t.nm,t.cs.set i ⟨c.to,co.k,co.nl⟩,t.ks,t.fs,t.xs.map F3⟩:=by unfold D9;rw[if_neg k1,if_neg k2,if_pos k3,hiN,A7H hco]
    rw[e,<- hx]
    rcases A5L hv.fl with hf|⟨a0,hf⟩|⟨a0,a1,hf⟩|⟨a0,a1,a2,hf⟩|⟨a0,a1,a2,a3,hf⟩
    ·exact C0D t dc dk df dx h c hc hq hf k3 i hi co hco hdc
    ·exact C0H t dc dk df dx h c hc hq a0 hf k3 i hi co hco hdc
    ·exact C0L t dc dk df dx h c hc hq a0 a1 hf k3 i hi co hco hdc
    ·exact C0P t dc dk df dx h c hc hq a0 a1 a2 hf k3 i hi co hco hdc
    ·exact C0T t dc dk df dx h c hc hq a0 a1 a2 a3 hf k3 i hi co hco hdc
   ·have k4:c.k=4:=by omega
    have e:D9 t c=⟨t.nm,t.cs.set i ⟨co.nm,2,co.nl⟩,t.ks,t.fs,t.xs.map F3⟩:=by unfold D9;rw[if_neg k1,if_neg k2,if_neg k3,hiN,A7H hco]
    rw[e,<- hx]
    rcases A5L hv.fl with hf|⟨a0,hf⟩|⟨a0,a1,hf⟩|⟨a0,a1,a2,hf⟩|⟨a0,a1,a2,a3,hf⟩
    ·exact C0E t dc dk df dx h c hc hq hf k4 i hi co hco hdc
    ·exact C0I t dc dk df dx h c hc hq a0 hf k4 i hi co hco hdc
    ·exact C0M t dc dk df dx h c hc hq a0 a1 hf k4 i hi co hco hdc
    ·exact C0Q t dc dk df dx h c hc hq a0 a1 a2 hf k4 i hi co hco hdc
    ·exact C0U t dc dk df dx h c hc hq a0 a1 a2 a3 hf k4 i hi co hco hdc
theorem C1d(x:TD)(h:x.ok)(c:Ch)(hc:G7 c)(hq:D2 x.t c≠0):Pure Tryz.prog R3 [x.av,c.av] (.tup [r9.av,.d (eI (D2 x.t c))]):=
 C0V x.t x.dc x.dk x.df x.dx h.tok c hc hq
theorem D04{os:List AO}{nm:List UInt8}{a b f x:Nat}{K X Cs:List (List D)}{rows:List (List AV)}{fs:List Fo}{cn kn xn nl:Bool}{cz kz xz cf kf xf lf:Nat}(hlf:lf=rows.length)
  (h1:os[a]?=some (.arr Cs cz cf cn)) (h2:os[b]?=some (.arr K kz kf kn)) (h3:os[f]?=some (.rarr rows 2 nl)) (h4:os[x]?=some (.arr X xz xf xn)) (hl:fs.length=rows.length)
  (hr:∀(i:Nat) e (g:Fo),rows[i]?=some e->fs[i]?=some g->∃q es fl,e=[.arr q es.length,.d (.str g.tb)]/\os[q]?=some (.arr es 1 0 fl)/\g.d=C2 fl es) :
  DA os (.agg [.d (.str nm),.arr a Cs.length,.arr b K.length,.rs f lf,.arr x X.length]) (eT nm (C2 cn Cs) (C2 kn K) (C2 nl (H6 fs)) (C2 xn X)):=by
 subst hlf
 have h:=V3 (nm:=nm) (e:=.nil) (.inl (.inr ⟨a,Cs,cz,cf,cn,rfl,h1,rfl⟩)) h2 h3 h4 hl hr
 rcases h with h|⟨cs,rs,e1,e2,e3,e4⟩
 ·rcases h with ⟨x,hx,_⟩|⟨_,_,hx,_⟩
  ·rcases hx with (hx|⟨_,_,_,_,_,hx,_⟩)|⟨_,_,_,_,_,hx,_⟩<;>cases hx
  ·cases hx
 ·cases e1;cases e2
  exact .inl (e4 0 _ _ rfl rfl)
theorem B13:∀(k:Nat)(l:List Fi),(A3g k l).length=l.length
 |_,[]=>rfl
 |k,f::fs=>by rw[A3g,I7,B13 (k+1) fs,I7]
theorem B9y:∀(l:List Fi)(k i:Nat)(f:Fi),l[i]?=some f->(A3g k l)[i]?=some [.arr (k+i) f.es.length,.d (.str f.tb)]
 |[],_,i,f,h=>by simp at h
 |a::l,k,0,f,h=>by cases h;rfl
 |a::l,k,i+1,f,h=>by
  rw[A3g,j0,B9y l (k+1) i f (by simpa using h),show k+1+i=k+(i+1) by omega]
def Fi.of(g:Fo):Fi:=⟨g.d,A0 g.cs,A9 g.d,g.tb⟩
theorem B1G(x:TD)(h:x.ok)(hf4:x.t.fs.length<=4):Pure Tryz.prog A1C [x.av] x.cp.av:=by
 obtain⟨t,dc,dk,df,dx⟩:=x
 obtain⟨h,hr⟩:=h
 dsimp only at h hr hf4
 have hx:=C0s hr
 have hok:∀g∈t.fs,(Fi.of g).ok:=λg hg=>F9 _ (by rw[B7];have:=(h.hfc g hg).1;omega) (D3 _) g.d g.sld
 have hC:=V0 (B2 t.cs) (by rw[F4];have:=h.hl;omega) (I4 _) dc h.dc
 have hI:=F9 (A0 t.ks) (by rw[B7];have:=h.hk;omega) (D3 _) dk h.dk
 have key:∀(l:List Fi) (hl:l=t.fs.map Fi.of) (n:Nat) (hn:n=l.length) (tab out:List AV),DA (Z9 tab out t.nm (B2 t.cs) (A0 t.ks) (A9 dc) (A9 dk) l (xL (t.xs.map (B9 0))) (xL (t.xs.map (B9 0))).isEmpty) (.agg (oB t.nm (B2 t.cs).length (A0 t.ks).length n (xL (t.xs.map (B9 0))).length))
   (eT t.nm (C2 (A9 dc) (B2 t.cs)) (C2 (A9 dk) (A0 t.ks)) (C2 l.isEmpty (H6 t.fs)) (C2 (xL (t.xs.map (B9 0))).isEmpty (xL (t.xs.map (B9 0))))):=by
  intro l hl n hn tab out
  refine D04 (rows:=A3g 7 l) (fs:=t.fs) (by rw[B13];exact hn) rfl rfl rfl rfl (by rw[B13,hl,D5]) λi e g he hg=>?_
  have h1:l[i]?=some (Fi.of g):=by rw[hl,G4,hg];rfl
  rw[B9y l 7 i _ h1] at he
  cases he
  refine⟨7+i,A0 g.cs,A9 g.d,rfl,?_,(O5 g.sld).symm⟩
  unfold Z9
  rw[P5 (by simp)]
  show(B0y l)[7+i-7]?=_
  unfold B0y
  rw[show 7+i-7=i by omega,G4,h1]
  rfl
 have fin:∀(l:List Fi),l=t.fs.map Fi.of->TD.av (TD.cp ⟨t,dc,dk,df,dx⟩)=eT t.nm (C2 (A9 dc) (B2 t.cs)) (C2 (A9 dk) (A0 t.ks)) (C2 l.isEmpty (H6 t.fs)) (C2 (xL (t.xs.map (B9 0))).isEmpty (xL (t.xs.map (B9 0)))):=by
  intro l hl
  rw[O5 h.dc,O5 h.dk,hx,hl]
  unfold TD.av TD.cp dF slX
  dsimp only
  have e:(t.fs.map Fi.of).isEmpty=t.fs.isEmpty:=by cases t.fs<;>rfl
  rw[e]
 have hdf:=h.df
 rcases A5L hf4 with hf|⟨a0,hf⟩|⟨a0,a1,hf⟩|⟨a0,a1,a2,hf⟩|⟨a0,a1,a2,a3,hf⟩
 ·have hd:B8 df []:=by rw[hf] at hdf;exact hdf
  refine B5.deepP (A4B t.nm dc dk df dx (B2 t.cs) (A0 t.ks) (A9 dc) (A9 dk) hC hI hd t.xs h.hxb h.hxs h.dx) ?_
  rintro r os ⟨rfl,rfl⟩
  rw[fin [] (by rw[hf];rfl)]
  exact key [] (by rw[hf];rfl) 0 rfl _ _
 all_goals
  have hd:df=.sl (R0 (t.fs.map Fi.of)):=by
   have e:R0 (t.fs.map Fi.of)=H6 t.fs:=by unfold R0 H6;rw[j4];rfl
   rw[e]
   rcases hdf with ⟨_,h2⟩|h2
   ·rw[hf] at h2;cases h2
   ·exact h2
  rw[hf] at hd
 ·refine B5.deepP (A4C t.nm dc dk df dx (B2 t.cs) (A0 t.ks) (A9 dc) (A9 dk) hC hI (Fi.of a0) (hok a0 (by rw[hf];simp)) hd t.xs h.hxb h.hxs h.dx) ?_
  rintro r os ⟨rfl,rfl⟩
  rw[fin [Fi.of a0] (by rw[hf];rfl)]
  exact key _ (by rw[hf];rfl) 1 rfl _ _
 ·refine B5.deepP (A4D t.nm dc dk df dx (B2 t.cs) (A0 t.ks) (A9 dc) (A9 dk) hC hI (Fi.of a0) (Fi.of a1) (hok a0 (by rw[hf];simp)) (hok a1 (by rw[hf];simp)) hd t.xs h.hxb h.hxs h.dx) ?_
  rintro r os ⟨rfl,rfl⟩
  rw[fin [Fi.of a0,Fi.of a1] (by rw[hf];rfl)]
  exact key _ (by rw[hf];rfl) 2 rfl _ _
 ·refine B5.deepP (A4E t.nm dc dk df dx (B2 t.cs) (A0 t.ks) (A9 dc) (A9 dk) hC hI (Fi.of a0) (Fi.of a1) (Fi.of a2) (hok a0 (by rw[hf];simp)) (hok a1 (by rw[hf];simp)) (hok a2 (by rw[hf];simp)) hd t.xs h.hxb h.hxs h.dx) ?_
  rintro r os ⟨rfl,rfl⟩
  rw[fin [Fi.of a0,Fi.of a1,Fi.of a2] (by rw[hf];rfl)]
  exact key _ (by rw[hf];rfl) 3 rfl _ _
 ·refine B5.deepP (A4F t.nm dc dk df dx (B2 t.cs) (A0 t.ks) (A9 dc) (A9 dk) hC hI (Fi.of a0) (Fi.of a1) (Fi.of a2) (Fi.of a3) (hok a0 (by rw[hf];simp)) (hok a1 (by rw[hf];simp)) (hok a2 (by rw[hf];simp)) (hok a3 (by rw[hf];simp)) hd t.xs h.hxb h.hxs h.dx) ?_
  rintro r os ⟨rfl,rfl⟩
  rw[fin [Fi.of a0,Fi.of a1,Fi.of a2,Fi.of a3] (by rw[hf];rfl)]
  exact key _ (by rw[hf];rfl) 4 rfl _ _
abbrev A1K(c:Ch):List D:=[eI c.k,.str c.nm,.str c.to,.str c.co.nm,eI c.co.k,.bool c.co.nl,eI c.df.k,eI c.df.n,.str c.df.s]
def M9(l:List Ch):List (List D):=l.map A1K
theorem A1L(l:List Ch):(M9 l).length=l.length:=by simp[M9]
theorem A5v{l:List Ch}{i:Nat}{c:Ch}(h:l[i]?=some c):(M9 l)[i]?=some (A1K c):=by simp[M9,h]
theorem A3Y(l:List Ch):∀e∈M9 l,e.length=9:=by
 intro e he
 obtain⟨x,_,rfl⟩:=F1.1 he
 rfl
theorem D0e(l:List Ch)(i:Nat):(M9 l).take i=M9 (l.take i):=by simp[M9]
def TD.run(x:TD)(i:Nat):List Ch->TD×Nat×Int
 |[]=>(x,i,0)
 |c::r=>if D2 x.t c=0 then TD.run (x.evo c) (i+1) r else (r9,i,D2 x.t c)
def TD.runs(x:TD)(l:List Ch):TD×Nat×Int:=if K8 x.t=0 then TD.run x.cp 0 l else (r9,0,K8 x.t)
theorem D0D{t u:Tb}(h:nf t=nf u)(c:Ch):D2 t c=D2 u c/\nf (D9 t c)=nf (D9 u c):=by
 refine⟨?_,?_⟩
 ·rw[<- A44,h,A44]
 ·rw[<- A4j,h,A4j]
end Go.Proofs
end
