/- Texts of this claim, joined. No condition. -/
import Derived.Test.YtnhhopmldgpglaaGreatDoorQ6
set_option linter.unusedSimpArgs false
set_option linter.unusedVariables false
set_option maxRecDepth 10000
set_option maxHeartbeats 4000000
section
set_option maxHeartbeats 8000000
namespace Go.Proofs
open Go.Bi
theorem C3o(nm:List UInt8)(es:List (List D))(hm:∀e∈es,e.length=3)(i:Nat)(hi:i<es.length)(hel:es.length<=1048576)(ks:List Int)(hkb:∀k∈ks,0<=k/\k<=1048576)(hkl:ks.length<=1048576)(kn:Bool)(hkn:kn=true->ks=[])(xs:List Ex)(hxl:xs.length<=1048576)(hxb:∀e∈xs,e.bk<=1048576)(xn:Bool)(hxn:xn=true->xs=[])(c0:List Int)(b0:Bool)(t0:List UInt8)(hc0:c0.length<=1048576)(hcb0:∀k∈c0,0<=k/\k<=1048576)(hn0:b0=true->c0=[])(c1:List Int)(b1:Bool)(t1:List UInt8)(hc1:c1.length<=1048576)(hcb1:∀k∈c1,0<=k/\k<=1048576)(hn1:b1=true->c1=[])(c2:List Int)(b2:Bool)(t2:List UInt8)(hc2:c2.length<=1048576)(hcb2:∀k∈c2,0<=k/\k<=1048576)(hn2:b2=true->c2=[])(c3:List Int)(b3:Bool)(t3:List UInt8)(hc3:c3.length<=1048576)(hcb3:∀k∈c3,0<=k/\k<=1048576)(hn3:b3=true->c3=[]) :
  B0 Tryz.prog A0Y [.ptr 0 0,.d (eI i)] [.cells [.d (.str nm),.arr 1 es.length,.arr 2 (A0 ks).length,.rs 3 4,.arr 4 (xL xs).length],.arr es 3 0 false,.arr (A0 ks) 1 0 kn,.rarr [[.arr 5 (A0 c0).length,.d (.str t0)],[.arr 6 (A0 c1).length,.d (.str t1)],[.arr 7 (A0 c2).length,.d (.str t2)],[.arr 8 (A0 c3).length,.d (.str t3)]] 2 false,.arr (xL xs) 7 0 xn,.arr (A0 c0) 1 0 b0,.arr (A0 c1) 1 0 b1,.arr (A0 c2) 1 0 b2,.arr (A0 c3) 1 0 b3]
   (λr os=>r=.tup []/\os=[.cells [.d (.str nm),.d (.sl (es.eraseIdx i)),.arr 2 (A0 ks).length,.rs 3 4,.arr 4 (xL xs).length],.arr (es.eraseIdx i++[M3]) 3 (es.length-1) false,.arr (A0 (ks.map λc=>A6 c i)) 1 0 kn,.rarr [[.arr 5 (A0 c0).length,.d (.str t0)],[.arr 6 (A0 c1).length,.d (.str t1)],[.arr 7 (A0 c2).length,.d (.str t2)],[.arr 8 (A0 c3).length,.d (.str t3)]] 2 false,.arr (xL (xs.map (D8 (H5 es.length i)))) 7 0 xn,.arr (A0 (c0.map λc=>A6 c i)) 1 0 b0,.arr (A0 (c1.map λc=>A6 c i)) 1 0 b1,.arr (A0 (c2.map λc=>A6 c i)) 1 0 b2,.arr (A0 (c3.map λc=>A6 c i)) 1 0 b3]):=by
 have hD:=fun {os:List AO} (ho:os[1]?=some (.arr es 3 0 false))=>A5l es hm i hi ho
 refine A5t.goX A4 rfl ?_
 repeat' first|refine st ?_|refine⟨λ_=>?_,λ_=>?_⟩|fail
 refine A00 4 7 rfl rfl ?_
 repeat' first|refine st ?_|refine⟨λ_=>?_,λ_=>?_⟩|fail
 refine I2 A4 A5D A5y (λ(k:Nat) (A:List (List D))=>[.arr 9 A.length,.d (eI k)]) (λk A=>[.cells [.d (.str nm),.arr 1 es.length,.arr 2 (A0 ks).length,.rs 3 4,.arr 4 (xL xs).length],.arr es 3 0 false,.arr (A0 ks) 1 0 kn,.rarr [[.arr 5 (A0 c0).length,.d (.str t0)],[.arr 6 (A0 c1).length,.d (.str t1)],[.arr 7 (A0 c2).length,.d (.str t2)],[.arr 8 (A0 c3).length,.d (.str t3)]] 2 false,.arr (xL xs) 7 0 xn,.arr (A0 c0) 1 0 b0,.arr (A0 c1) 1 0 b1,.arr (A0 c2) 1 0 b2,.arr (A0 c3) 1 0 b3,.arr A 7 0 A.isEmpty]) (λk A=>k<=es.length/\A=xL (H5 k i)) (λk A=>es.length-k) 0 [] rfl rfl rfl rfl (λ_ _ _=>⟨rfl,rfl⟩) rfl ⟨by omega,by simp[H5,xL]⟩ ?_
 repeat' first|refine st ?_|refine⟨λ_=>?_,λ_=>?_⟩|fail
 intro k A ⟨h4,h5⟩
 have hAl:A.length=k:=by rw[h5,I7,A1l]
 have hAm:∀e∈A,e.length=7:=by rw[h5];exact O7 _
 by_cases hlt:k<es.length
 ·have hB:=W7 k i (by omega) (by omega)
  have hs:=A6G k i
  rw[<- h5] at hs
  obtain⟨b,hb⟩:∃b,b=A6 k i:=⟨_,rfl⟩
  rw[<- hb] at hB hs
  clear h5
  repeat' first|refine st ?_|refine⟨λ_=>?_,λ_=>?_⟩|fail
  refine⟨k+1,A++[[.int .i64 2,eI b,.int .i64 0,.int .i64 0,.str [],.str [],.nil]],?_,rfl,?_,by omega,by omega,hs⟩
  ·rfl
  ·rw[show(A++[[.int .i64 2,eI b,.int .i64 0,.int .i64 0,.str [],.str [],.nil]]).isEmpty=false by simp]
   first|rfl|skip
 ·have hke:k=es.length:=by omega
  rw[hke] at h5
  have hDc:=hD (os:=[.cells [.d (.str nm),.arr 1 es.length,.arr 2 (A0 ks).length,.rs 3 4,.arr 4 (xL xs).length],.arr es 3 0 false,.arr (A0 ks) 1 0 kn,.rarr [[.arr 5 (A0 c0).length,.d (.str t0)],[.arr 6 (A0 c1).length,.d (.str t1)],[.arr 7 (A0 c2).length,.d (.str t2)],[.arr 8 (A0 c3).length,.d (.str t3)]] 2 false,.arr (xL xs) 7 0 xn,.arr (A0 c0) 1 0 b0,.arr (A0 c1) 1 0 b1,.arr (A0 c2) 1 0 b2,.arr (A0 c3) 1 0 b3,.arr A 7 0 A.isEmpty]) rfl
  obtain⟨es',hes'⟩:∃e,e=es.eraseIdx i:=⟨_,rfl⟩
  rw[<- hes'] at hDc ⊢
  obtain⟨M0,hM0⟩:∃L,L=H5 es.length i:=⟨_,rfl⟩
  have hMl:M0.length<=1048576:=by rw[hM0,A1l];exact hel
  rw[<- hM0] at h5 ⊢
  obtain⟨N0,hN0⟩:∃K,K=A0 (c0.map λc=>A6 c i):=⟨_,rfl⟩
  obtain⟨N1,hN1⟩:∃K,K=A0 (c1.map λc=>A6 c i):=⟨_,rfl⟩
  obtain⟨N2,hN2⟩:∃K,K=A0 (c2.map λc=>A6 c i):=⟨_,rfl⟩
  obtain⟨N3,hN3⟩:∃K,K=A0 (c3.map λc=>A6 c i):=⟨_,rfl⟩
  rw[<- hN0,<- hN1,<- hN2,<- hN3]
  repeat' first|(with_reducible apply A35)|refine st ?_|((with_reducible first|apply I5|apply I8);(·exact hDc);(try rintro _ _ ⟨rfl,rfl⟩))|((with_reducible apply I9);(·exact hDc))|refine⟨λ_=>?_,λ_=>?_⟩|fail
  refine F2 A4 A5E A5z (λ(j:Nat)=>[.d (eI j)]) (λj=>[.cells [.d (.str nm),.d (.sl es'),.arr 2 (A0 ks).length,.rs 3 4,.arr 4 (xL xs).length],.arr (es'++[M3]) 3 (es.length-1) false,.arr (A0 (D2 ks (λc=>A6 c i) j)) 1 0 kn,.rarr [[.arr 5 (A0 c0).length,.d (.str t0)],[.arr 6 (A0 c1).length,.d (.str t1)],[.arr 7 (A0 c2).length,.d (.str t2)],[.arr 8 (A0 c3).length,.d (.str t3)]] 2 false,.arr (xL xs) 7 0 xn,.arr (A0 c0) 1 0 b0,.arr (A0 c1) 1 0 b1,.arr (A0 c2) 1 0 b2,.arr (A0 c3) 1 0 b3,.arr A 7 0 A.isEmpty]) (λj=>j<=ks.length) (λj=>ks.length-j) 0 rfl rfl rfl (by rw[s6];rfl) (λ_ _=>⟨rfl,rfl⟩) rfl (by omega) ?_
  repeat' first|refine st ?_|refine⟨λ_=>?_,λ_=>?_⟩|fail
  intro j h6
  have hKl:=s4 ks (λc=>A6 c i) j h6
  cases hy:ks[j]? with
  |some c=>
   obtain⟨hlt2,he2⟩:=A7.1 hy
   have hkf:kn=false:=by
    cases kn with
    |false=>rfl
    |true=>rw[hkn rfl] at hlt2;simp at hlt2
   subst hkf
   have hg:=K5 (s0 (λc=>A6 c i) hy)
   have hset:=s5 (λc=>A6 c i) hy
   obtain⟨cb1,cb2⟩:=hkb c (B9 hy)
   have hB:=W7 c i (by omega) (by omega)
   have hks:=B4 ks
   obtain⟨y,hyy⟩:∃y,y=A6 c i:=⟨_,rfl⟩
   rw[<- hyy] at hB hset
   have hset2:(A0 (D2 ks (λc=>A6 c i) j)).set j [eI y]=A0 (D2 ks (λc=>A6 c i) (j+1)):=by rw[p7,hset]
   have hml:=B4 (D2 ks (λc=>A6 c i) j)
   have hmm2:=C9 (D2 ks (λc=>A6 c i) j)
   obtain⟨X,hX⟩:∃X,X=A0 (D2 ks (λc=>A6 c i) j):=⟨_,rfl⟩
   rw[<- hX] at hg hset2 hml hmm2 ⊢
   repeat' first|refine st ?_|refine⟨λ_=>?_,λ_=>?_⟩|fail
   refine⟨j+1,rfl,rfl,?_,by omega,by omega⟩
   rw[show((j:Int)).toNat=j from G7 j,hset2]
  |none=>
   have hge:=C8.1 hy
   have hjk:j=ks.length:=by omega
   subst hjk
   rw[r9]
   have hks:=B4 ks
   obtain⟨K',hK'⟩:∃K,K=A0 (ks.map λc=>A6 c i):=⟨_,rfl⟩
   rw[<- hK']
   repeat' first|refine st ?_|refine⟨λ_=>?_,λ_=>?_⟩|fail
   refine A26 5 ?_
   refine Q5 A4 ?_
   repeat' first|refine st ?_|refine⟨λ_=>?_,λ_=>?_⟩|fail
   refine F2 A4 A1x A1w (λ(j:Nat)=>[.d (eI j)]) (λj=>[.cells [.d (.str nm),.d (.sl es'),.arr 2 (A0 ks).length,.rs 3 4,.arr 4 (xL xs).length],.arr (es'++[M3]) 3 (es.length-1) false,.arr K' 1 0 kn,.rarr [[.arr 5 (A0 c0).length,.d (.str t0)],[.arr 6 (A0 c1).length,.d (.str t1)],[.arr 7 (A0 c2).length,.d (.str t2)],[.arr 8 (A0 c3).length,.d (.str t3)]] 2 false,.arr (xL xs) 7 0 xn,.arr (A0 (D2 c0 (λc=>A6 c i) j)) 1 0 b0,.arr (A0 c1) 1 0 b1,.arr (A0 c2) 1 0 b2,.arr (A0 c3) 1 0 b3,.arr A 7 0 A.isEmpty,.cells [.arr 5 (A0 c0).length,.d (.str t0)]]) (λj=>j<=c0.length) (λj=>c0.length-j) 0 rfl rfl rfl (by rw[s6];rfl) (λ_ _=>⟨rfl,rfl⟩) rfl (by omega) ?_
   repeat' first|refine st ?_|refine⟨λ_=>?_,λ_=>?_⟩|fail
   intro j h6
   have hKl:=s4 c0 (λc=>A6 c i) j h6
   cases hy:c0[j]? with
   |some c=>
    obtain⟨hlt2,he2⟩:=A7.1 hy
    have hkf:b0=false:=by
     cases b0 with
     |false=>rfl
     |true=>rw[hn0 rfl] at hlt2;simp at hlt2
    subst hkf
    have hg:=K5 (s0 (λc=>A6 c i) hy)
    have hset:=s5 (λc=>A6 c i) hy
    obtain⟨cb1,cb2⟩:=hcb0 c (B9 hy)
    have hB:=W7 c i (by omega) (by omega)
    have hks:=B4 c0
    obtain⟨y,hyy⟩:∃y,y=A6 c i:=⟨_,rfl⟩
    rw[<- hyy] at hB hset
    have hset2:(A0 (D2 c0 (λc=>A6 c i) j)).set j [eI y]=A0 (D2 c0 (λc=>A6 c i) (j+1)):=by rw[p7,hset]
    have hml:=B4 (D2 c0 (λc=>A6 c i) j)
    have hmm2:=C9 (D2 c0 (λc=>A6 c i) j)
    obtain⟨X,hX⟩:∃X,X=A0 (D2 c0 (λc=>A6 c i) j):=⟨_,rfl⟩
    rw[<- hX] at hg hset2 hml hmm2 ⊢
    repeat' first|refine st ?_|refine⟨λ_=>?_,λ_=>?_⟩|fail
    refine⟨j+1,rfl,rfl,?_,by omega,by omega⟩
    rw[show((j:Int)).toNat=j from G7 j,hset2]
   |none=>
    have hge:=C8.1 hy
    have hjk:j=c0.length:=by omega
    subst hjk
    rw[r9]
    have hks:=B4 c0
    rw[<- hN0]
    repeat' first|refine st ?_|refine⟨λ_=>?_,λ_=>?_⟩|fail
    refine Q5 A4 ?_
    repeat' first|refine st ?_|refine⟨λ_=>?_,λ_=>?_⟩|fail
    refine F2 A4 A1x A1w (λ(j:Nat)=>[.d (eI j)]) (λj=>[.cells [.d (.str nm),.d (.sl es'),.arr 2 (A0 ks).length,.rs 3 4,.arr 4 (xL xs).length],.arr (es'++[M3]) 3 (es.length-1) false,.arr K' 1 0 kn,.rarr [[.arr 5 (A0 c0).length,.d (.str t0)],[.arr 6 (A0 c1).length,.d (.str t1)],[.arr 7 (A0 c2).length,.d (.str t2)],[.arr 8 (A0 c3).length,.d (.str t3)]] 2 false,.arr (xL xs) 7 0 xn,.arr N0 1 0 b0,.arr (A0 (D2 c1 (λc=>A6 c i) j)) 1 0 b1,.arr (A0 c2) 1 0 b2,.arr (A0 c3) 1 0 b3,.arr A 7 0 A.isEmpty,.cells [.arr 5 (A0 c0).length,.d (.str t0)],.cells [.arr 6 (A0 c1).length,.d (.str t1)]]) (λj=>j<=c1.length) (λj=>c1.length-j) 0 rfl rfl rfl (by rw[s6];rfl) (λ_ _=>⟨rfl,rfl⟩) rfl (by omega) ?_
    repeat' first|refine st ?_|refine⟨λ_=>?_,λ_=>?_⟩|fail
    intro j h6
    have hKl:=s4 c1 (λc=>A6 c i) j h6
    cases hy:c1[j]? with
    |some c=>
     obtain⟨hlt2,he2⟩:=A7.1 hy
     have hkf:b1=false:=by
      cases b1 with
      |false=>rfl
      |true=>rw[hn1 rfl] at hlt2;simp at hlt2
     subst hkf
     have hg:=K5 (s0 (λc=>A6 c i) hy)
     have hset:=s5 (λc=>A6 c i) hy
     obtain⟨cb1,cb2⟩:=hcb1 c (B9 hy)
     have hB:=W7 c i (by omega) (by omega)
     have hks:=B4 c1
     obtain⟨y,hyy⟩:∃y,y=A6 c i:=⟨_,rfl⟩
     rw[<- hyy] at hB hset
     have hset2:(A0 (D2 c1 (λc=>A6 c i) j)).set j [eI y]=A0 (D2 c1 (λc=>A6 c i) (j+1)):=by rw[p7,hset]
     have hml:=B4 (D2 c1 (λc=>A6 c i) j)
     have hmm2:=C9 (D2 c1 (λc=>A6 c i) j)
     obtain⟨X,hX⟩:∃X,X=A0 (D2 c1 (λc=>A6 c i) j):=⟨_,rfl⟩
     rw[<- hX] at hg hset2 hml hmm2 ⊢
     repeat' first|refine st ?_|refine⟨λ_=>?_,λ_=>?_⟩|fail
     refine⟨j+1,rfl,rfl,?_,by omega,by omega⟩
     rw[show((j:Int)).toNat=j from G7 j,hset2]
    |none=>
     have hge:=C8.1 hy
     have hjk:j=c1.length:=by omega
     subst hjk
     rw[r9]
     have hks:=B4 c1
     rw[<- hN1]
     repeat' first|refine st ?_|refine⟨λ_=>?_,λ_=>?_⟩|fail
     refine Q5 A4 ?_
     repeat' first|refine st ?_|refine⟨λ_=>?_,λ_=>?_⟩|fail
     refine F2 A4 A1x A1w (λ(j:Nat)=>[.d (eI j)]) (λj=>[.cells [.d (.str nm),.d (.sl es'),.arr 2 (A0 ks).length,.rs 3 4,.arr 4 (xL xs).length],.arr (es'++[M3]) 3 (es.length-1) false,.arr K' 1 0 kn,.rarr [[.arr 5 (A0 c0).length,.d (.str t0)],[.arr 6 (A0 c1).length,.d (.str t1)],[.arr 7 (A0 c2).length,.d (.str t2)],[.arr 8 (A0 c3).length,.d (.str t3)]] 2 false,.arr (xL xs) 7 0 xn,.arr N0 1 0 b0,.arr N1 1 0 b1,.arr (A0 (D2 c2 (λc=>A6 c i) j)) 1 0 b2,.arr (A0 c3) 1 0 b3,.arr A 7 0 A.isEmpty,.cells [.arr 5 (A0 c0).length,.d (.str t0)],.cells [.arr 6 (A0 c1).length,.d (.str t1)],.cells [.arr 7 (A0 c2).length,.d (.str t2)]]) (λj=>j<=c2.length) (λj=>c2.length-j) 0 rfl rfl rfl (by rw[s6];rfl) (λ_ _=>⟨rfl,rfl⟩) rfl (by omega) ?_
     repeat' first|refine st ?_|refine⟨λ_=>?_,λ_=>?_⟩|fail
     intro j h6
     have hKl:=s4 c2 (λc=>A6 c i) j h6
     cases hy:c2[j]? with
     |some c=>
      obtain⟨hlt2,he2⟩:=A7.1 hy
      have hkf:b2=false:=by
       cases b2 with
       |false=>rfl
       |true=>rw[hn2 rfl] at hlt2;simp at hlt2
      subst hkf
      have hg:=K5 (s0 (λc=>A6 c i) hy)
      have hset:=s5 (λc=>A6 c i) hy
      obtain⟨cb1,cb2⟩:=hcb2 c (B9 hy)
      have hB:=W7 c i (by omega) (by omega)
      have hks:=B4 c2
      obtain⟨y,hyy⟩:∃y,y=A6 c i:=⟨_,rfl⟩
      rw[<- hyy] at hB hset
      have hset2:(A0 (D2 c2 (λc=>A6 c i) j)).set j [eI y]=A0 (D2 c2 (λc=>A6 c i) (j+1)):=by rw[p7,hset]
      have hml:=B4 (D2 c2 (λc=>A6 c i) j)
      have hmm2:=C9 (D2 c2 (λc=>A6 c i) j)
      obtain⟨X,hX⟩:∃X,X=A0 (D2 c2 (λc=>A6 c i) j):=⟨_,rfl⟩
      rw[<- hX] at hg hset2 hml hmm2 ⊢
      repeat' first|refine st ?_|refine⟨λ_=>?_,λ_=>?_⟩|fail
      refine⟨j+1,rfl,rfl,?_,by omega,by omega⟩
      rw[show((j:Int)).toNat=j from G7 j,hset2]
     |none=>
      have hge:=C8.1 hy
      have hjk:j=c2.length:=by omega
      subst hjk
      rw[r9]
      have hks:=B4 c2
      rw[<- hN2]
      repeat' first|refine st ?_|refine⟨λ_=>?_,λ_=>?_⟩|fail
      refine Q5 A4 ?_
      repeat' first|refine st ?_|refine⟨λ_=>?_,λ_=>?_⟩|fail
      refine F2 A4 A1x A1w (λ(j:Nat)=>[.d (eI j)]) (λj=>[.cells [.d (.str nm),.d (.sl es'),.arr 2 (A0 ks).length,.rs 3 4,.arr 4 (xL xs).length],.arr (es'++[M3]) 3 (es.length-1) false,.arr K' 1 0 kn,.rarr [[.arr 5 (A0 c0).length,.d (.str t0)],[.arr 6 (A0 c1).length,.d (.str t1)],[.arr 7 (A0 c2).length,.d (.str t2)],[.arr 8 (A0 c3).length,.d (.str t3)]] 2 false,.arr (xL xs) 7 0 xn,.arr N0 1 0 b0,.arr N1 1 0 b1,.arr N2 1 0 b2,.arr (A0 (D2 c3 (λc=>A6 c i) j)) 1 0 b3,.arr A 7 0 A.isEmpty,.cells [.arr 5 (A0 c0).length,.d (.str t0)],.cells [.arr 6 (A0 c1).length,.d (.str t1)],.cells [.arr 7 (A0 c2).length,.d (.str t2)],.cells [.arr 8 (A0 c3).length,.d (.str t3)]]) (λj=>j<=c3.length) (λj=>c3.length-j) 0 rfl rfl rfl (by rw[s6];rfl) (λ_ _=>⟨rfl,rfl⟩) rfl (by omega) ?_
      repeat' first|refine st ?_|refine⟨λ_=>?_,λ_=>?_⟩|fail
      intro j h6
      have hKl:=s4 c3 (λc=>A6 c i) j h6
      cases hy:c3[j]? with
      |some c=>
       obtain⟨hlt2,he2⟩:=A7.1 hy
       have hkf:b3=false:=by
        cases b3 with
        |false=>rfl
        |true=>rw[hn3 rfl] at hlt2;simp at hlt2
       subst hkf
       have hg:=K5 (s0 (λc=>A6 c i) hy)
       have hset:=s5 (λc=>A6 c i) hy
       obtain⟨cb1,cb2⟩:=hcb3 c (B9 hy)
       have hB:=W7 c i (by omega) (by omega)
       have hks:=B4 c3
       obtain⟨y,hyy⟩:∃y,y=A6 c i:=⟨_,rfl⟩
       rw[<- hyy] at hB hset
       have hset2:(A0 (D2 c3 (λc=>A6 c i) j)).set j [eI y]=A0 (D2 c3 (λc=>A6 c i) (j+1)):=by rw[p7,hset]
       have hml:=B4 (D2 c3 (λc=>A6 c i) j)
       have hmm2:=C9 (D2 c3 (λc=>A6 c i) j)
       obtain⟨X,hX⟩:∃X,X=A0 (D2 c3 (λc=>A6 c i) j):=⟨_,rfl⟩
       rw[<- hX] at hg hset2 hml hmm2 ⊢
       repeat' first|refine st ?_|refine⟨λ_=>?_,λ_=>?_⟩|fail
       refine⟨j+1,rfl,rfl,?_,by omega,by omega⟩
       rw[show((j:Int)).toNat=j from G7 j,hset2]
      |none=>
       have hge:=C8.1 hy
       have hjk:j=c3.length:=by omega
       subst hjk
       rw[r9]
       have hks:=B4 c3
       rw[<- hN3]
       repeat' first|refine st ?_|refine⟨λ_=>?_,λ_=>?_⟩|fail
       refine Q5 A4 ?_
       repeat' first|refine st ?_|refine⟨λ_=>?_,λ_=>?_⟩|fail
       have hAe:A.isEmpty=false:=by cases A with
        |nil=>simp at hAl;omega
        |cons a l=>rfl
       rw[hAe]
       have hXl:=I7 xs
       refine A2F 4 (id:=9) (len:=A.length) (sz:=7) (frz:=0) (nl:=false) (es:=A) rfl rfl rfl ?_
       rw[if_neg (by decide:¬(false=true))]
       repeat' first|refine st ?_|refine⟨λ_=>?_,λ_=>?_⟩|fail
       refine F2 A4 A5F A5A (λ(q:Nat)=>[.d (eI q)]) (λq=>[.cells [.d (.str nm),.d (.sl es'),.arr 2 (A0 ks).length,.rs 3 4,.arr 4 (xL xs).length],.arr (es'++[M3]) 3 (es.length-1) false,.arr K' 1 0 kn,.rarr [[.arr 5 (A0 c0).length,.d (.str t0)],[.arr 6 (A0 c1).length,.d (.str t1)],[.arr 7 (A0 c2).length,.d (.str t2)],[.arr 8 (A0 c3).length,.d (.str t3)]] 2 false,.arr (xL (L7 xs (D8 M0) q)) 7 0 xn,.arr N0 1 0 b0,.arr N1 1 0 b1,.arr N2 1 0 b2,.arr N3 1 0 b3,.arr A 7 A.length false,.cells [.arr 5 (A0 c0).length,.d (.str t0)],.cells [.arr 6 (A0 c1).length,.d (.str t1)],.cells [.arr 7 (A0 c2).length,.d (.str t2)],.cells [.arr 8 (A0 c3).length,.d (.str t3)]]) (λq=>q<=xs.length) (λq=>xs.length-q) 0 rfl rfl rfl (by rw[A6E];rfl) (λ_ _=>⟨rfl,rfl⟩) rfl (by omega) ?_
       repeat' first|refine st ?_|refine⟨λ_=>?_,λ_=>?_⟩|fail
       intro q h7
       have hMb:∀a∈M0,a.bk<=1048576:=by
        intro a ha
        rw[hM0] at ha
        obtain⟨b,_,rfl⟩:=D9.1 ha
        unfold mvE Ex.bk
        rw[Ex.ds_mk]
        exact P5 rfl
       have hXql:=A6C xs (D8 M0) q h7
       cases hx:xs[q]? with
       |some x=>
        obtain⟨hlt3,he3⟩:=A7.1 hx
        have hxf:xn=false:=by
         cases xn with
         |false=>rfl
         |true=>rw[hxn rfl] at hlt3;simp at hlt3
        subst hxf
        have hg:=A6B (D8 M0) hx
        have hset:=A6D (D8 M0) hx
        have hS:=A5g M0 hMl hMb (.sl A) (by rw[h5];exact J7) x (hxb x (B9 hx))
        have hq1:=I7 (L7 xs (D8 M0) q)
        have hq2:=O7 (L7 xs (D8 M0) q)
        obtain⟨z,hz⟩:∃z,z=D8 M0 x:=⟨_,rfl⟩
        rw[<- hz] at hS hset
        have hset2:(xL (L7 xs (D8 M0) q)).set q z.ds=xL (L7 xs (D8 M0) (q+1)):=by rw[<- hset];unfold xL;rw[W8]
        obtain⟨o1,n1,v1,m1,l1,a1⟩:=x
        obtain⟨o2,n2,v2,m2,l2,a2⟩:=z
        have hg:=o3 _ _ _ _ _ _ _ hg
        rw[Ex.av_mk,Ex.av_mk] at hS
        rw[Ex.ds_mk] at hset2
        obtain⟨X,hX⟩:∃X,X=xL (L7 xs (D8 M0) q):=⟨_,rfl⟩
        rw[<- hX] at hg hset2 hq1 hq2 ⊢
        repeat' first|refine st ?_|refine⟨λ_=>?_,λ_=>?_⟩|fail
        refine⟨q+1,rfl,rfl,?_,by omega,by omega⟩
        rw[show((q:Int)).toNat=q from G7 q,hset2]
       |none=>
        have hge:=C8.1 hx
        have hqk:q=xs.length:=by omega
        subst hqk
        rw[A6A]
        repeat' first|refine st ?_|refine⟨λ_=>?_,λ_=>?_⟩|fail
        exact⟨rfl,rfl⟩
theorem C3p(T0 T1 T2 T3 T4 T7:AO)(nm:List UInt8)(es:List (List D))(hm:∀e∈es,e.length=3)(i:Nat)(hi:i<es.length)(hel:es.length<=1048576)(ks:List Int)(hkb:∀k∈ks,0<=k/\k<=1048576)(hkl:ks.length<=1048576)(kn:Bool)(hkn:kn=true->ks=[])(xs:List Ex)(hxl:xs.length<=1048576)(hxb:∀e∈xs,e.bk<=1048576)(xn:Bool)(hxn:xn=true->xs=[])(c0:List Int)(b0:Bool)(t0:List UInt8)(hc0:c0.length<=1048576)(hcb0:∀k∈c0,0<=k/\k<=1048576)(hn0:b0=true->c0=[])(c1:List Int)(b1:Bool)(t1:List UInt8)(hc1:c1.length<=1048576)(hcb1:∀k∈c1,0<=k/\k<=1048576)(hn1:b1=true->c1=[])(c2:List Int)(b2:Bool)(t2:List UInt8)(hc2:c2.length<=1048576)(hcb2:∀k∈c2,0<=k/\k<=1048576)(hn2:b2=true->c2=[])(c3:List Int)(b3:Bool)(t3:List UInt8)(hc3:c3.length<=1048576)(hcb3:∀k∈c3,0<=k/\k<=1048576)(hn3:b3=true->c3=[]) :
  B0 Tryz.prog A0Y [.ptr 14 0,.d (eI i)] [T0,T1,T2,T3,T4,.arr es 3 0 false,.arr (A0 ks) 1 0 kn,T7,.rarr [[.arr 10 (A0 c0).length,.d (.str t0)],[.arr 11 (A0 c1).length,.d (.str t1)],[.arr 12 (A0 c2).length,.d (.str t2)],[.arr 13 (A0 c3).length,.d (.str t3)]] 2 false,.arr (xL xs) 7 0 xn,.arr (A0 c0) 1 0 b0,.arr (A0 c1) 1 0 b1,.arr (A0 c2) 1 0 b2,.arr (A0 c3) 1 0 b3,.cells [.d (.str nm),.arr 5 es.length,.arr 6 (A0 ks).length,.rs 8 4,.arr 9 (xL xs).length]]
   (λr os=>r=.tup []/\os=[T0,T1,T2,T3,T4,.arr (es.eraseIdx i++[M3]) 3 (es.length-1) false,.arr (A0 (ks.map λc=>A6 c i)) 1 0 kn,T7,.rarr [[.arr 10 (A0 c0).length,.d (.str t0)],[.arr 11 (A0 c1).length,.d (.str t1)],[.arr 12 (A0 c2).length,.d (.str t2)],[.arr 13 (A0 c3).length,.d (.str t3)]] 2 false,.arr (xL (xs.map (D8 (H5 es.length i)))) 7 0 xn,.arr (A0 (c0.map λc=>A6 c i)) 1 0 b0,.arr (A0 (c1.map λc=>A6 c i)) 1 0 b1,.arr (A0 (c2.map λc=>A6 c i)) 1 0 b2,.arr (A0 (c3.map λc=>A6 c i)) 1 0 b3,.cells [.d (.str nm),.d (.sl (es.eraseIdx i)),.arr 6 (A0 ks).length,.rs 8 4,.arr 9 (xL xs).length]]):=by
 have:=B0.frame (K:=λr os=>r=.tup []/\os=[T0,T1,T2,T3,T4,.arr (es.eraseIdx i++[M3]) 3 (es.length-1) false,.arr (A0 (ks.map λc=>A6 c i)) 1 0 kn,T7,.rarr [[.arr 10 (A0 c0).length,.d (.str t0)],[.arr 11 (A0 c1).length,.d (.str t1)],[.arr 12 (A0 c2).length,.d (.str t2)],[.arr 13 (A0 c3).length,.d (.str t3)]] 2 false,.arr (xL (xs.map (D8 (H5 es.length i)))) 7 0 xn,.arr (A0 (c0.map λc=>A6 c i)) 1 0 b0,.arr (A0 (c1.map λc=>A6 c i)) 1 0 b1,.arr (A0 (c2.map λc=>A6 c i)) 1 0 b2,.arr (A0 (c3.map λc=>A6 c i)) 1 0 b3,.cells [.d (.str nm),.d (.sl (es.eraseIdx i)),.arr 6 (A0 ks).length,.rs 8 4,.arr 9 (xL xs).length]]) (C3o nm es hm i hi hel ks hkb hkl kn hkn xs hxl hxb xn hxn c0 b0 t0 hc0 hcb0 hn0 c1 b1 t1 hc1 hcb1 hn1 c2 b2 t2 hc2 hcb2 hn2 c3 b3 t3 hc3 hcb3 hn3) [14,5,6,8,9,10,11,12,13]
  [T0,T1,T2,T3,T4,.arr es 3 0 false,.arr (A0 ks) 1 0 kn,T7,.rarr [[.arr 10 (A0 c0).length,.d (.str t0)],[.arr 11 (A0 c1).length,.d (.str t1)],[.arr 12 (A0 c2).length,.d (.str t2)],[.arr 13 (A0 c3).length,.d (.str t3)]] 2 false,.arr (xL xs) 7 0 xn,.arr (A0 c0) 1 0 b0,.arr (A0 c1) 1 0 b1,.arr (A0 c2) 1 0 b2,.arr (A0 c3) 1 0 b3,.cells [.d (.str nm),.arr 5 es.length,.arr 6 (A0 ks).length,.rs 8 4,.arr 9 (xL xs).length]] rfl (by decide) (λi o h=>by
   match i,h with
   |0,h=>cases h;rfl
   |1,h=>cases h;rfl
   |2,h=>cases h;rfl
   |3,h=>cases h;rfl
   |4,h=>cases h;rfl
   |5,h=>cases h;rfl
   |6,h=>cases h;rfl
   |7,h=>cases h;rfl
   |8,h=>cases h;rfl
   |i+9,h=>simp at h) (λa ha=>by
    simp only[I6,o4,or_false] at ha
    rcases ha with rfl|rfl<;>simp[AV.bnd2,AV.bnd1]) (λo ho=>by
    simp only[I6,o4,or_false] at ho
    rcases ho with rfl|rfl|rfl|rfl|rfl|rfl|rfl|rfl|rfl
    ·exact M6 rfl
    ·exact M6 rfl
    ·exact M6 rfl
    ·exact M6 rfl
    ·exact M6 rfl
    ·exact M6 rfl
    ·exact M6 rfl
    ·exact M6 rfl
    ·exact M6 rfl
    ) (by
   rintro r bs' ⟨rfl,rfl⟩
   exact⟨rfl,rfl⟩)
 exact this
end Go.Proofs
end
section
set_option maxHeartbeats 8000000
namespace Go.Proofs
open Go.Bi
theorem C30(t:Tb)(dc dk df dx:D)(h:N6 t dc dk df dx)(c:Ch)(hc:H6 c)(hq:C7 t c=0)(g0 g1 g2 g3:Fo)(hfs:t.fs=[g0,g1,g2,g3])(hk:c.k=1) :
  Pure Tryz.prog Q9 [eT t.nm dc dk df dx,c.av] (.tup [eT t.nm (.sl (A9 (t.cs++[c.co]))) (B5 (A5 dk) (A0 t.ks)) (dF t.fs) (B5 (xL (t.xs.map (B7 0))).isEmpty (xL (t.xs.map (B7 0)))),.d (eI 0)]):=by
 have hC:=U4 t dc dk df dx h c hc
 rw[hq] at hC
 have hF:=S7 t.nm t.cs h.hl dc dk df dx h.dc c.nm
 have hl:=h.hl
 have hdf:=h.df
 have hfc:=h.hfc
 rw[hfs] at hdf hfc
 have hdf2:df=.sl (R6 [⟨g0.d,A0 g0.cs,A5 g0.d,g0.tb⟩,⟨g1.d,A0 g1.cs,A5 g1.d,g1.tb⟩,⟨g2.d,A0 g2.cs,A5 g2.d,g2.tb⟩,⟨g3.d,A0 g3.cs,A5 g3.d,g3.tb⟩]):=by
  rcases hdf with ⟨_,h2⟩|h2
  ·cases h2
  ·exact h2
 have hf0:(Fi.mk g0.d (A0 g0.cs) (A5 g0.d) g0.tb).ok:=G4 _ (by rw[B4];have:=(hfc g0 (by simp)).1;omega) (C9 _) g0.d g0.sld
 have hf1:(Fi.mk g1.d (A0 g1.cs) (A5 g1.d) g1.tb).ok:=G4 _ (by rw[B4];have:=(hfc g1 (by simp)).1;omega) (C9 _) g1.d g1.sld
 have hf2:(Fi.mk g2.d (A0 g2.cs) (A5 g2.d) g2.tb).ok:=G4 _ (by rw[B4];have:=(hfc g2 (by simp)).1;omega) (C9 _) g2.d g2.sld
 have hf3:(Fi.mk g3.d (A0 g3.cs) (A5 g3.d) g3.tb).ok:=G4 _ (by rw[B4];have:=(hfc g3 (by simp)).1;omega) (C9 _) g3.d g3.sld
 have hK:=A5e t.nm dc dk df dx (A9 t.cs) (A0 t.ks) (A5 dc) (A5 dk) (V4 _ (by rw[F3];omega) (H8 _) dc h.dc) (G4 _ (by rw[B4];have:=h.hk;omega) (C9 _) dk h.dk) _ _ _ _ hf0 hf1 hf2 hf3 hdf2 t.xs h.hxb h.hxs h.dx
 have hcl:=F3 t.cs
 have q0:g0.d=B5 (A5 g0.d) (A0 g0.cs):=(O6 g0.sld).symm
 have q1:g1.d=B5 (A5 g1.d) (A0 g1.cs):=(O6 g1.sld).symm
 have q2:g2.d=B5 (A5 g2.d) (A0 g2.cs):=(O6 g2.sld).symm
 have q3:g3.d=B5 (A5 g3.d) (A0 g3.cs):=(O6 g3.sld).symm
 have e1:A9 (t.cs++[c.co])=A9 t.cs++[c.co.ds]:=by simp[A9]
 rw[e1]
 obtain⟨k,nm,to,⟨cn,ck,cl⟩,⟨vk,vn,vs⟩⟩:=c
 dsimp only at hk
 subst hk
 obtain⟨f,hf⟩:∃f,f=D4 nm t.cs:=⟨_,rfl⟩
 have hF:Bi.Pure Tryz.prog U7 [eT t.nm dc dk df dx,.d (.str nm)] (.d (eI f)):=by rw[hf];exact hF
 rw[show dF t.fs=B5 false (G5 [g0,g1,g2,g3]) by rw[hfs];rfl]
 generalize A9 t.cs=Cs at hK hcl q0 q1 q2 q3 ⊢
 generalize A0 t.ks=Ks at hK hcl q0 q1 q2 q3 ⊢
 generalize xL (t.xs.map (B7 0))=Xs at hK hcl q0 q1 q2 q3 ⊢
 generalize A5 dk=b2 at hK hcl q0 q1 q2 q3 ⊢
 generalize A5 dc=b1 at hK hcl q0 q1 q2 q3 ⊢
 generalize A0 g0.cs=G0 at hK hcl q0 q1 q2 q3 ⊢
 generalize A5 g0.d=n0 at hK hcl q0 q1 q2 q3 ⊢
 generalize A0 g1.cs=G1 at hK hcl q0 q1 q2 q3 ⊢
 generalize A5 g1.d=n1 at hK hcl q0 q1 q2 q3 ⊢
 generalize A0 g2.cs=G2 at hK hcl q0 q1 q2 q3 ⊢
 generalize A5 g2.d=n2 at hK hcl q0 q1 q2 q3 ⊢
 generalize A0 g3.cs=G3 at hK hcl q0 q1 q2 q3 ⊢
 generalize A5 g3.d=n3 at hK hcl q0 q1 q2 q3 ⊢
 obtain⟨u0,hu0⟩:∃x,x=g0.tb:=⟨_,rfl⟩
 rw[<- hu0] at hK
 obtain⟨u1,hu1⟩:∃x,x=g1.tb:=⟨_,rfl⟩
 rw[<- hu1] at hK
 obtain⟨u2,hu2⟩:∃x,x=g2.tb:=⟨_,rfl⟩
 rw[<- hu2] at hK
 obtain⟨u3,hu3⟩:∃x,x=g3.tb:=⟨_,rfl⟩
 rw[<- hu3] at hK
 refine B0.deepP (Q:=λr os=>r=.tup [.agg [.d (.str t.nm),.arr 5 (Cs++[[.str cn,eI ck,.bool cl]]).length,.arr 6 Ks.length,.rs 8 4,.arr 9 Xs.length],.d (eI 0)]/\os[5]?=some (.arr (Cs++[[.str cn,eI ck,.bool cl]]) 3 0 false)/\os[6]?=some (.arr Ks 1 0 b2)/\os[8]?=some (.rarr [[.arr 10 G0.length,.d (.str u0)],[.arr 11 G1.length,.d (.str u1)],[.arr 12 G2.length,.d (.str u2)],[.arr 13 G3.length,.d (.str u3)]] 2 false)/\os[9]?=some (.arr Xs 7 0 Xs.isEmpty)/\os[10]?=some (.arr G0 1 0 n0)/\os[11]?=some (.arr G1 1 0 n1)/\os[12]?=some (.arr G2 1 0 n2)/\os[13]?=some (.arr G3 1 0 n3)) ?_ ?_
 ·refine V5.goO2 A4 rfl ?_
  repeat' first|refine st ?_|((with_reducible first|apply I5|apply I8);(·exact hK);(try rintro _ _ ⟨rfl,rfl⟩))|((with_reducible apply I9);(·exact hK))|refine⟨λ_=>?_,λ_=>?_⟩|fail
  exact⟨rfl,rfl,rfl,rfl,rfl,rfl,rfl,rfl,rfl⟩
 ·rintro r os ⟨rfl,hx0,hx1,hx2,hx3,hx4,hx5,hx6,hx7⟩
  refine V6 (rows:=[[.arr 10 G0.length,.d (.str u0)],[.arr 11 G1.length,.d (.str u1)],[.arr 12 G2.length,.d (.str u2)],[.arr 13 G3.length,.d (.str u3)]]) (fs:=[g0,g1,g2,g3]) (.inl (.inr ⟨5,_,3,0,false,rfl,hx0,rfl⟩)) hx1 hx2 hx3 rfl (λi e g he hg=>?_)
  match i,he,hg with
  |0,he,hg=>cases he;cases hg;exact⟨10,_,n0,by rw[hu0],hx4,q0⟩
  |1,he,hg=>cases he;cases hg;exact⟨11,_,n1,by rw[hu1],hx5,q1⟩
  |2,he,hg=>cases he;cases hg;exact⟨12,_,n2,by rw[hu2],hx6,q2⟩
  |3,he,hg=>cases he;cases hg;exact⟨13,_,n3,by rw[hu3],hx7,q3⟩
  |i+4,he,hg=>simp at he
theorem C32(t:Tb)(dc dk df dx:D)(h:N6 t dc dk df dx)(c:Ch)(hc:H6 c)(hq:C7 t c=0)(g0 g1 g2 g3:Fo)(hfs:t.fs=[g0,g1,g2,g3])(hk:c.k=3)(i:Nat)(hi:D4 c.nm t.cs=i)(co:Co)(hco:t.cs[i]?=some co)(hdc:dc=.sl (A9 t.cs)) :
  Pure Tryz.prog Q9 [eT t.nm dc dk df dx,c.av] (.tup [eT t.nm (.sl (A9 (t.cs.set i ⟨c.to,co.k,co.nl⟩))) (B5 (A5 dk) (A0 t.ks)) (dF t.fs) (B5 (xL (t.xs.map (B7 0))).isEmpty (xL (t.xs.map (B7 0)))),.d (eI 0)]):=by
 have hC:=U4 t dc dk df dx h c hc
 rw[hq] at hC
 have hF:=S7 t.nm t.cs h.hl dc dk df dx h.dc c.nm
 have hl:=h.hl
 have hdf:=h.df
 have hfc:=h.hfc
 rw[hfs] at hdf hfc
 rw[hi] at hF
 have hdf2:df=.sl (R6 [⟨g0.d,A0 g0.cs,A5 g0.d,g0.tb⟩,⟨g1.d,A0 g1.cs,A5 g1.d,g1.tb⟩,⟨g2.d,A0 g2.cs,A5 g2.d,g2.tb⟩,⟨g3.d,A0 g3.cs,A5 g3.d,g3.tb⟩]):=by
  rcases hdf with ⟨_,h2⟩|h2
  ·cases h2
  ·exact h2
 have hf0:(Fi.mk g0.d (A0 g0.cs) (A5 g0.d) g0.tb).ok:=G4 _ (by rw[B4];have:=(hfc g0 (by simp)).1;omega) (C9 _) g0.d g0.sld
 have hf1:(Fi.mk g1.d (A0 g1.cs) (A5 g1.d) g1.tb).ok:=G4 _ (by rw[B4];have:=(hfc g1 (by simp)).1;omega) (C9 _) g1.d g1.sld
 have hf2:(Fi.mk g2.d (A0 g2.cs) (A5 g2.d) g2.tb).ok:=G4 _ (by rw[B4];have:=(hfc g2 (by simp)).1;omega) (C9 _) g2.d g2.sld
 have hf3:(Fi.mk g3.d (A0 g3.cs) (A5 g3.d) g3.tb).ok:=G4 _ (by rw[B4];have:=(hfc g3 (by simp)).1;omega) (C9 _) g3.d g3.sld
 have hK:=A5e t.nm dc dk df dx (A9 t.cs) (A0 t.ks) (A5 dc) (A5 dk) (V4 _ (by rw[F3];omega) (H8 _) dc h.dc) (G4 _ (by rw[B4];have:=h.hk;omega) (C9 _) dk h.dk) _ _ _ _ hf0 hf1 hf2 hf3 hdf2 t.xs h.hxb h.hxs h.dx
 have hcl:=F3 t.cs
 rw[show A5 dc=false by rw[hdc];rfl] at hK
 have q0:g0.d=B5 (A5 g0.d) (A0 g0.cs):=(O6 g0.sld).symm
 have q1:g1.d=B5 (A5 g1.d) (A0 g1.cs):=(O6 g1.sld).symm
 have q2:g2.d=B5 (A5 g2.d) (A0 g2.cs):=(O6 g2.sld).symm
 have q3:g3.d=B5 (A5 g3.d) (A0 g3.cs):=(O6 g3.sld).symm
 have hg:(A9 t.cs)[((i:Nat):Int).toNat]?=some [.str co.nm,eI co.k,.bool co.nl]:=L4 hco
 have hg2:(A9 t.cs)[i]?=some [.str co.nm,eI co.k,.bool co.nl]:=L4 hco
 have hmm:=H8 t.cs
 have hilt:i<(A9 t.cs).length:=by rw[hcl];exact(A7.1 hco).1
 have e1:A9 (t.cs.set i ⟨c.to,co.k,co.nl⟩)=(A9 t.cs).set i [.str c.to,eI co.k,.bool co.nl]:=by unfold A9;rw[W8]
 rw[e1]
 obtain⟨k,nm,to,⟨cn,ck,cl⟩,⟨vk,vn,vs⟩⟩:=c
 dsimp only at hk
 subst hk
 have hF:Bi.Pure Tryz.prog U7 [eT t.nm dc dk df dx,.d (.str nm)] (.d (eI i)):=hF
 rw[show dF t.fs=B5 false (G5 [g0,g1,g2,g3]) by rw[hfs];rfl]
 generalize A9 t.cs=Cs at hK hcl hg hg2 hmm hilt q0 q1 q2 q3 ⊢
 generalize A0 t.ks=Ks at hK hcl hg hg2 hmm hilt q0 q1 q2 q3 ⊢
 generalize xL (t.xs.map (B7 0))=Xs at hK hcl hg hg2 hmm hilt q0 q1 q2 q3 ⊢
 generalize A5 dk=b2 at hK hcl hg hg2 hmm hilt q0 q1 q2 q3 ⊢
 generalize A0 g0.cs=G0 at hK hcl hg hg2 hmm hilt q0 q1 q2 q3 ⊢
 generalize A5 g0.d=n0 at hK hcl hg hg2 hmm hilt q0 q1 q2 q3 ⊢
 generalize A0 g1.cs=G1 at hK hcl hg hg2 hmm hilt q0 q1 q2 q3 ⊢
 generalize A5 g1.d=n1 at hK hcl hg hg2 hmm hilt q0 q1 q2 q3 ⊢
 generalize A0 g2.cs=G2 at hK hcl hg hg2 hmm hilt q0 q1 q2 q3 ⊢
 generalize A5 g2.d=n2 at hK hcl hg hg2 hmm hilt q0 q1 q2 q3 ⊢
 generalize A0 g3.cs=G3 at hK hcl hg hg2 hmm hilt q0 q1 q2 q3 ⊢
 generalize A5 g3.d=n3 at hK hcl hg hg2 hmm hilt q0 q1 q2 q3 ⊢
 obtain⟨u0,hu0⟩:∃x,x=g0.tb:=⟨_,rfl⟩
 rw[<- hu0] at hK
 obtain⟨u1,hu1⟩:∃x,x=g1.tb:=⟨_,rfl⟩
 rw[<- hu1] at hK
 obtain⟨u2,hu2⟩:∃x,x=g2.tb:=⟨_,rfl⟩
 rw[<- hu2] at hK
 obtain⟨u3,hu3⟩:∃x,x=g3.tb:=⟨_,rfl⟩
 rw[<- hu3] at hK
 refine B0.deepP (Q:=λr os=>r=.tup [.agg [.d (.str t.nm),.arr 5 (Cs.set i [.str to,eI co.k,.bool co.nl]).length,.arr 6 Ks.length,.rs 8 4,.arr 9 Xs.length],.d (eI 0)]/\os[5]?=some (.arr (Cs.set i [.str to,eI co.k,.bool co.nl]) 3 0 false)/\os[6]?=some (.arr Ks 1 0 b2)/\os[8]?=some (.rarr [[.arr 10 G0.length,.d (.str u0)],[.arr 11 G1.length,.d (.str u1)],[.arr 12 G2.length,.d (.str u2)],[.arr 13 G3.length,.d (.str u3)]] 2 false)/\os[9]?=some (.arr Xs 7 0 Xs.isEmpty)/\os[10]?=some (.arr G0 1 0 n0)/\os[11]?=some (.arr G1 1 0 n1)/\os[12]?=some (.arr G2 1 0 n2)/\os[13]?=some (.arr G3 1 0 n3)) ?_ ?_
 ·refine V5.goO2 A4 rfl ?_
  rw[U6]
  repeat' first|refine st ?_|((with_reducible first|apply I5|apply I8);(·exact hK);(try rintro _ _ ⟨rfl,rfl⟩))|((with_reducible apply I9);(·exact hK))|refine⟨λ_=>?_,λ_=>?_⟩|fail
  exact⟨rfl,rfl,rfl,rfl,rfl,rfl,rfl,rfl,rfl⟩
 ·rintro r os ⟨rfl,hx0,hx1,hx2,hx3,hx4,hx5,hx6,hx7⟩
  refine V6 (rows:=[[.arr 10 G0.length,.d (.str u0)],[.arr 11 G1.length,.d (.str u1)],[.arr 12 G2.length,.d (.str u2)],[.arr 13 G3.length,.d (.str u3)]]) (fs:=[g0,g1,g2,g3]) (.inl (.inr ⟨5,_,3,0,false,rfl,hx0,rfl⟩)) hx1 hx2 hx3 rfl (λi e g he hg=>?_)
  match i,he,hg with
  |0,he,hg=>cases he;cases hg;exact⟨10,_,n0,by rw[hu0],hx4,q0⟩
  |1,he,hg=>cases he;cases hg;exact⟨11,_,n1,by rw[hu1],hx5,q1⟩
  |2,he,hg=>cases he;cases hg;exact⟨12,_,n2,by rw[hu2],hx6,q2⟩
  |3,he,hg=>cases he;cases hg;exact⟨13,_,n3,by rw[hu3],hx7,q3⟩
  |i+4,he,hg=>simp at he
theorem C33(t:Tb)(dc dk df dx:D)(h:N6 t dc dk df dx)(c:Ch)(hc:H6 c)(hq:C7 t c=0)(g0 g1 g2 g3:Fo)(hfs:t.fs=[g0,g1,g2,g3])(hk:c.k=4)(i:Nat)(hi:D4 c.nm t.cs=i)(co:Co)(hco:t.cs[i]?=some co)(hdc:dc=.sl (A9 t.cs)) :
  Pure Tryz.prog Q9 [eT t.nm dc dk df dx,c.av] (.tup [eT t.nm (.sl (A9 (t.cs.set i ⟨co.nm,2,co.nl⟩))) (B5 (A5 dk) (A0 t.ks)) (dF t.fs) (B5 (xL (t.xs.map (B7 0))).isEmpty (xL (t.xs.map (B7 0)))),.d (eI 0)]):=by
 have hC:=U4 t dc dk df dx h c hc
 rw[hq] at hC
 have hF:=S7 t.nm t.cs h.hl dc dk df dx h.dc c.nm
 have hl:=h.hl
 have hdf:=h.df
 have hfc:=h.hfc
 rw[hfs] at hdf hfc
 rw[hi] at hF
 have hdf2:df=.sl (R6 [⟨g0.d,A0 g0.cs,A5 g0.d,g0.tb⟩,⟨g1.d,A0 g1.cs,A5 g1.d,g1.tb⟩,⟨g2.d,A0 g2.cs,A5 g2.d,g2.tb⟩,⟨g3.d,A0 g3.cs,A5 g3.d,g3.tb⟩]):=by
  rcases hdf with ⟨_,h2⟩|h2
  ·cases h2
  ·exact h2
 have hf0:(Fi.mk g0.d (A0 g0.cs) (A5 g0.d) g0.tb).ok:=G4 _ (by rw[B4];have:=(hfc g0 (by simp)).1;omega) (C9 _) g0.d g0.sld
 have hf1:(Fi.mk g1.d (A0 g1.cs) (A5 g1.d) g1.tb).ok:=G4 _ (by rw[B4];have:=(hfc g1 (by simp)).1;omega) (C9 _) g1.d g1.sld
 have hf2:(Fi.mk g2.d (A0 g2.cs) (A5 g2.d) g2.tb).ok:=G4 _ (by rw[B4];have:=(hfc g2 (by simp)).1;omega) (C9 _) g2.d g2.sld
 have hf3:(Fi.mk g3.d (A0 g3.cs) (A5 g3.d) g3.tb).ok:=G4 _ (by rw[B4];have:=(hfc g3 (by simp)).1;omega) (C9 _) g3.d g3.sld
 have hK:=A5e t.nm dc dk df dx (A9 t.cs) (A0 t.ks) (A5 dc) (A5 dk) (V4 _ (by rw[F3];omega) (H8 _) dc h.dc) (G4 _ (by rw[B4];have:=h.hk;omega) (C9 _) dk h.dk) _ _ _ _ hf0 hf1 hf2 hf3 hdf2 t.xs h.hxb h.hxs h.dx
 have hcl:=F3 t.cs
 rw[show A5 dc=false by rw[hdc];rfl] at hK
 have q0:g0.d=B5 (A5 g0.d) (A0 g0.cs):=(O6 g0.sld).symm
 have q1:g1.d=B5 (A5 g1.d) (A0 g1.cs):=(O6 g1.sld).symm
 have q2:g2.d=B5 (A5 g2.d) (A0 g2.cs):=(O6 g2.sld).symm
 have q3:g3.d=B5 (A5 g3.d) (A0 g3.cs):=(O6 g3.sld).symm
 have hg:(A9 t.cs)[((i:Nat):Int).toNat]?=some [.str co.nm,eI co.k,.bool co.nl]:=L4 hco
 have hg2:(A9 t.cs)[i]?=some [.str co.nm,eI co.k,.bool co.nl]:=L4 hco
 have hmm:=H8 t.cs
 have hilt:i<(A9 t.cs).length:=by rw[hcl];exact(A7.1 hco).1
 have e1:A9 (t.cs.set i ⟨co.nm,2,co.nl⟩)=(A9 t.cs).set i [.str co.nm,eI 2,.bool co.nl]:=by unfold A9;rw[W8]
 rw[e1]
 obtain⟨k,nm,to,⟨cn,ck,cl⟩,⟨vk,vn,vs⟩⟩:=c
 dsimp only at hk
 subst hk
 have hF:Bi.Pure Tryz.prog U7 [eT t.nm dc dk df dx,.d (.str nm)] (.d (eI i)):=hF
 rw[show dF t.fs=B5 false (G5 [g0,g1,g2,g3]) by rw[hfs];rfl]
 generalize A9 t.cs=Cs at hK hcl hg hg2 hmm hilt q0 q1 q2 q3 ⊢
 generalize A0 t.ks=Ks at hK hcl hg hg2 hmm hilt q0 q1 q2 q3 ⊢
 generalize xL (t.xs.map (B7 0))=Xs at hK hcl hg hg2 hmm hilt q0 q1 q2 q3 ⊢
 generalize A5 dk=b2 at hK hcl hg hg2 hmm hilt q0 q1 q2 q3 ⊢
 generalize A0 g0.cs=G0 at hK hcl hg hg2 hmm hilt q0 q1 q2 q3 ⊢
 generalize A5 g0.d=n0 at hK hcl hg hg2 hmm hilt q0 q1 q2 q3 ⊢
 generalize A0 g1.cs=G1 at hK hcl hg hg2 hmm hilt q0 q1 q2 q3 ⊢
 generalize A5 g1.d=n1 at hK hcl hg hg2 hmm hilt q0 q1 q2 q3 ⊢
 generalize A0 g2.cs=G2 at hK hcl hg hg2 hmm hilt q0 q1 q2 q3 ⊢
 generalize A5 g2.d=n2 at hK hcl hg hg2 hmm hilt q0 q1 q2 q3 ⊢
 generalize A0 g3.cs=G3 at hK hcl hg hg2 hmm hilt q0 q1 q2 q3 ⊢
 generalize A5 g3.d=n3 at hK hcl hg hg2 hmm hilt q0 q1 q2 q3 ⊢
 obtain⟨u0,hu0⟩:∃x,x=g0.tb:=⟨_,rfl⟩
 rw[<- hu0] at hK
 obtain⟨u1,hu1⟩:∃x,x=g1.tb:=⟨_,rfl⟩
 rw[<- hu1] at hK
 obtain⟨u2,hu2⟩:∃x,x=g2.tb:=⟨_,rfl⟩
 rw[<- hu2] at hK
 obtain⟨u3,hu3⟩:∃x,x=g3.tb:=⟨_,rfl⟩
 rw[<- hu3] at hK
 refine B0.deepP (Q:=λr os=>r=.tup [.agg [.d (.str t.nm),.arr 5 (Cs.set i [.str co.nm,eI 2,.bool co.nl]).length,.arr 6 Ks.length,.rs 8 4,.arr 9 Xs.length],.d (eI 0)]/\os[5]?=some (.arr (Cs.set i [.str co.nm,eI 2,.bool co.nl]) 3 0 false)/\os[6]?=some (.arr Ks 1 0 b2)/\os[8]?=some (.rarr [[.arr 10 G0.length,.d (.str u0)],[.arr 11 G1.length,.d (.str u1)],[.arr 12 G2.length,.d (.str u2)],[.arr 13 G3.length,.d (.str u3)]] 2 false)/\os[9]?=some (.arr Xs 7 0 Xs.isEmpty)/\os[10]?=some (.arr G0 1 0 n0)/\os[11]?=some (.arr G1 1 0 n1)/\os[12]?=some (.arr G2 1 0 n2)/\os[13]?=some (.arr G3 1 0 n3)) ?_ ?_
 ·refine V5.goO2 A4 rfl ?_
  rw[U6]
  repeat' first|refine st ?_|((with_reducible first|apply I5|apply I8);(·exact hK);(try rintro _ _ ⟨rfl,rfl⟩))|((with_reducible apply I9);(·exact hK))|refine⟨λ_=>?_,λ_=>?_⟩|fail
  exact⟨rfl,rfl,rfl,rfl,rfl,rfl,rfl,rfl,rfl⟩
 ·rintro r os ⟨rfl,hx0,hx1,hx2,hx3,hx4,hx5,hx6,hx7⟩
  refine V6 (rows:=[[.arr 10 G0.length,.d (.str u0)],[.arr 11 G1.length,.d (.str u1)],[.arr 12 G2.length,.d (.str u2)],[.arr 13 G3.length,.d (.str u3)]]) (fs:=[g0,g1,g2,g3]) (.inl (.inr ⟨5,_,3,0,false,rfl,hx0,rfl⟩)) hx1 hx2 hx3 rfl (λi e g he hg=>?_)
  match i,he,hg with
  |0,he,hg=>cases he;cases hg;exact⟨10,_,n0,by rw[hu0],hx4,q0⟩
  |1,he,hg=>cases he;cases hg;exact⟨11,_,n1,by rw[hu1],hx5,q1⟩
  |2,he,hg=>cases he;cases hg;exact⟨12,_,n2,by rw[hu2],hx6,q2⟩
  |3,he,hg=>cases he;cases hg;exact⟨13,_,n3,by rw[hu3],hx7,q3⟩
  |i+4,he,hg=>simp at he
theorem C31(t:Tb)(dc dk df dx:D)(h:N6 t dc dk df dx)(c:Ch)(hc:H6 c)(hq:C7 t c=0)(g0 g1 g2 g3:Fo)(hfs:t.fs=[g0,g1,g2,g3])(hk:c.k=2)(i:Nat)(hi:D4 c.nm t.cs=i)(hil:i<t.cs.length)(hdc:dc=.sl (A9 t.cs))(hkb:∀k∈t.ks,0<=k/\k<=1048576)(hfb:∀g∈t.fs,∀k∈g.cs,0<=k/\k<=1048576)(hxb:∀e∈t.xs.map (B7 0),e.bk<=1048576) :
  Pure Tryz.prog Q9 [eT t.nm dc dk df dx,c.av] (.tup [eT t.nm (.sl (A9 (t.cs.eraseIdx i))) (B5 (A5 dk) (A0 (t.ks.map λc=>A6 c i))) (dF (t.fs.map (I1 i))) (B5 (xL (t.xs.map (B7 0))).isEmpty (xL ((t.xs.map (B7 0)).map (D8 (H5 t.cs.length i))))),.d (eI 0)]):=by
 have hC:=U4 t dc dk df dx h c hc
 rw[hq] at hC
 have hF:=S7 t.nm t.cs h.hl dc dk df dx h.dc c.nm
 have hl:=h.hl
 have hdf:=h.df
 have hfc:=h.hfc
 rw[hfs] at hdf hfc
 rw[hi] at hF
 have hdf2:df=.sl (R6 [⟨g0.d,A0 g0.cs,A5 g0.d,g0.tb⟩,⟨g1.d,A0 g1.cs,A5 g1.d,g1.tb⟩,⟨g2.d,A0 g2.cs,A5 g2.d,g2.tb⟩,⟨g3.d,A0 g3.cs,A5 g3.d,g3.tb⟩]):=by
  rcases hdf with ⟨_,h2⟩|h2
  ·cases h2
  ·exact h2
 have hf0:(Fi.mk g0.d (A0 g0.cs) (A5 g0.d) g0.tb).ok:=G4 _ (by rw[B4];have:=(hfc g0 (by simp)).1;omega) (C9 _) g0.d g0.sld
 have hf1:(Fi.mk g1.d (A0 g1.cs) (A5 g1.d) g1.tb).ok:=G4 _ (by rw[B4];have:=(hfc g1 (by simp)).1;omega) (C9 _) g1.d g1.sld
 have hf2:(Fi.mk g2.d (A0 g2.cs) (A5 g2.d) g2.tb).ok:=G4 _ (by rw[B4];have:=(hfc g2 (by simp)).1;omega) (C9 _) g2.d g2.sld
 have hf3:(Fi.mk g3.d (A0 g3.cs) (A5 g3.d) g3.tb).ok:=G4 _ (by rw[B4];have:=(hfc g3 (by simp)).1;omega) (C9 _) g3.d g3.sld
 have hK:=A5e t.nm dc dk df dx (A9 t.cs) (A0 t.ks) (A5 dc) (A5 dk) (V4 _ (by rw[F3];omega) (H8 _) dc h.dc) (G4 _ (by rw[B4];have:=h.hk;omega) (C9 _) dk h.dk) _ _ _ _ hf0 hf1 hf2 hf3 hdf2 t.xs h.hxb h.hxs h.dx
 have hcl:=F3 t.cs
 rw[show A5 dc=false by rw[hdc];rfl] at hK
 have hkN:A5 dk=true->t.ks=[]:=λhh=>by
  have:=m8 h.dk hh
  cases hks:t.ks with
  |nil=>rfl
  |cons a l=>rw[hks] at this;cases this
 have hxN:(xL (t.xs.map (B7 0))).isEmpty=true->t.xs.map (B7 0)=[]:=by
  intro hh
  cases hx:t.xs.map (B7 0) with
  |nil=>rfl
  |cons a l=>rw[hx] at hh;cases hh
 have hN0:A5 g0.d=true->g0.cs=[]:=λhh=>by
  have:=m8 g0.sld hh
  cases hks:g0.cs with
  |nil=>rfl
  |cons a l=>rw[hks] at this;cases this
 have hB0:=hfb g0 (by rw[hfs];simp)
 have hN1:A5 g1.d=true->g1.cs=[]:=λhh=>by
  have:=m8 g1.sld hh
  cases hks:g1.cs with
  |nil=>rfl
  |cons a l=>rw[hks] at this;cases this
 have hB1:=hfb g1 (by rw[hfs];simp)
 have hN2:A5 g2.d=true->g2.cs=[]:=λhh=>by
  have:=m8 g2.sld hh
  cases hks:g2.cs with
  |nil=>rfl
  |cons a l=>rw[hks] at this;cases this
 have hB2:=hfb g2 (by rw[hfs];simp)
 have hN3:A5 g3.d=true->g3.cs=[]:=λhh=>by
  have:=m8 g3.sld hh
  cases hks:g3.cs with
  |nil=>rfl
  |cons a l=>rw[hks] at this;cases this
 have hB3:=hfb g3 (by rw[hfs];simp)
 have hD:=λT0 T1 T2 T3 T4 T7=>C3p T0 T1 T2 T3 T4 T7 t.nm (A9 t.cs) (H8 _) i (by rw[hcl];exact hil) (by rw[hcl];exact hl) t.ks hkb h.hk (A5 dk) hkN (t.xs.map (B7 0)) (by rw[C6];exact h.hxs) hxb _ hxN g0.cs (A5 g0.d) g0.tb (hfc g0 (by simp)).1 hB0 hN0 g1.cs (A5 g1.d) g1.tb (hfc g1 (by simp)).1 hB1 hN1 g2.cs (A5 g2.d) g2.tb (hfc g2 (by simp)).1 hB2 hN2 g3.cs (A5 g3.d) g3.tb (hfc g3 (by simp)).1 hB3 hN3
 rw[hcl] at hD
 have hkl2:(A0 (t.ks.map λc=>A6 c i)).length=(A0 t.ks).length:=by rw[B4,B4,C6]
 have hxl2:(xL ((t.xs.map (B7 0)).map (D8 (H5 t.cs.length i)))).length=(xL (t.xs.map (B7 0))).length:=by rw[I7,I7,C6]
 have hkl20:(A0 (g0.cs.map λc=>A6 c i)).length=(A0 g0.cs).length:=by rw[B4,B4,C6]
 have hkl21:(A0 (g1.cs.map λc=>A6 c i)).length=(A0 g1.cs).length:=by rw[B4,B4,C6]
 have hkl22:(A0 (g2.cs.map λc=>A6 c i)).length=(A0 g2.cs).length:=by rw[B4,B4,C6]
 have hkl23:(A0 (g3.cs.map λc=>A6 c i)).length=(A0 g3.cs).length:=by rw[B4,B4,C6]
 have q0:(I1 i g0).d=B5 (A5 g0.d) (A0 (g0.cs.map λc=>A6 c i)):=A1D i g0
 have q1:(I1 i g1).d=B5 (A5 g1.d) (A0 (g1.cs.map λc=>A6 c i)):=A1D i g1
 have q2:(I1 i g2).d=B5 (A5 g2.d) (A0 (g2.cs.map λc=>A6 c i)):=A1D i g2
 have q3:(I1 i g3).d=B5 (A5 g3.d) (A0 (g3.cs.map λc=>A6 c i)):=A1D i g3
 have e1:A9 (t.cs.eraseIdx i)=(A9 t.cs).eraseIdx i:=A4B _ _
 rw[e1]
 obtain⟨k,nm,to,⟨cn,ck,cl⟩,⟨vk,vn,vs⟩⟩:=c
 dsimp only at hk
 subst hk
 have hF:Bi.Pure Tryz.prog U7 [eT t.nm dc dk df dx,.d (.str nm)] (.d (eI i)):=hF
 rw[show dF (t.fs.map (I1 i))=B5 false (G5 [I1 i g0,I1 i g1,I1 i g2,I1 i g3]) by rw[hfs];rfl]
 rw[hcl] at hK
 generalize A0 (t.ks.map λc=>A6 c i)=K2 at hK hcl hkl2 hxl2 hkl20 hkl21 hkl22 hkl23 q0 q1 q2 q3 hD ⊢
 generalize xL ((t.xs.map (B7 0)).map (D8 (H5 t.cs.length i)))=X2 at hK hcl hkl2 hxl2 hkl20 hkl21 hkl22 hkl23 q0 q1 q2 q3 hD ⊢
 generalize (A9 t.cs).eraseIdx i=E2 at hK hcl hkl2 hxl2 hkl20 hkl21 hkl22 hkl23 q0 q1 q2 q3 hD ⊢
 generalize A0 (g0.cs.map λc=>A6 c i)=H0 at hK hcl hkl2 hxl2 hkl20 hkl21 hkl22 hkl23 q0 q1 q2 q3 hD ⊢
 generalize A0 (g1.cs.map λc=>A6 c i)=H1 at hK hcl hkl2 hxl2 hkl20 hkl21 hkl22 hkl23 q0 q1 q2 q3 hD ⊢
 generalize A0 (g2.cs.map λc=>A6 c i)=H2 at hK hcl hkl2 hxl2 hkl20 hkl21 hkl22 hkl23 q0 q1 q2 q3 hD ⊢
 generalize A0 (g3.cs.map λc=>A6 c i)=H3 at hK hcl hkl2 hxl2 hkl20 hkl21 hkl22 hkl23 q0 q1 q2 q3 hD ⊢
 generalize A9 t.cs=Cs at hK hcl hkl2 hxl2 hkl20 hkl21 hkl22 hkl23 q0 q1 q2 q3 hD ⊢
 generalize A0 t.ks=Ks at hK hcl hkl2 hxl2 hkl20 hkl21 hkl22 hkl23 q0 q1 q2 q3 hD ⊢
 generalize xL (t.xs.map (B7 0))=Xs at hK hcl hkl2 hxl2 hkl20 hkl21 hkl22 hkl23 q0 q1 q2 q3 hD ⊢
 generalize A5 dk=b2 at hK hcl hkl2 hxl2 hkl20 hkl21 hkl22 hkl23 q0 q1 q2 q3 hD ⊢
 generalize A0 g0.cs=G0 at hK hcl hkl2 hxl2 hkl20 hkl21 hkl22 hkl23 q0 q1 q2 q3 hD ⊢
 generalize A5 g0.d=n0 at hK hcl hkl2 hxl2 hkl20 hkl21 hkl22 hkl23 q0 q1 q2 q3 hD ⊢
 generalize A0 g1.cs=G1 at hK hcl hkl2 hxl2 hkl20 hkl21 hkl22 hkl23 q0 q1 q2 q3 hD ⊢
 generalize A5 g1.d=n1 at hK hcl hkl2 hxl2 hkl20 hkl21 hkl22 hkl23 q0 q1 q2 q3 hD ⊢
 generalize A0 g2.cs=G2 at hK hcl hkl2 hxl2 hkl20 hkl21 hkl22 hkl23 q0 q1 q2 q3 hD ⊢
 generalize A5 g2.d=n2 at hK hcl hkl2 hxl2 hkl20 hkl21 hkl22 hkl23 q0 q1 q2 q3 hD ⊢
 generalize A0 g3.cs=G3 at hK hcl hkl2 hxl2 hkl20 hkl21 hkl22 hkl23 q0 q1 q2 q3 hD ⊢
 generalize A5 g3.d=n3 at hK hcl hkl2 hxl2 hkl20 hkl21 hkl22 hkl23 q0 q1 q2 q3 hD ⊢
 obtain⟨u0,hu0⟩:∃x,x=g0.tb:=⟨_,rfl⟩
 rw[<- hu0] at hK
 simp only[<- hu0] at hD
 obtain⟨u1,hu1⟩:∃x,x=g1.tb:=⟨_,rfl⟩
 rw[<- hu1] at hK
 simp only[<- hu1] at hD
 obtain⟨u2,hu2⟩:∃x,x=g2.tb:=⟨_,rfl⟩
 rw[<- hu2] at hK
 simp only[<- hu2] at hD
 obtain⟨u3,hu3⟩:∃x,x=g3.tb:=⟨_,rfl⟩
 rw[<- hu3] at hK
 simp only[<- hu3] at hD
 refine B0.deepP (Q:=λr os=>r=.tup [.agg [.d (.str t.nm),.d (.sl E2),.arr 6 K2.length,.rs 8 4,.arr 9 X2.length],.d (eI 0)]/\os[6]?=some (.arr K2 1 0 b2)/\os[8]?=some (.rarr [[.arr 10 H0.length,.d (.str u0)],[.arr 11 H1.length,.d (.str u1)],[.arr 12 H2.length,.d (.str u2)],[.arr 13 H3.length,.d (.str u3)]] 2 false)/\os[9]?=some (.arr X2 7 0 Xs.isEmpty)/\os[10]?=some (.arr H0 1 0 n0)/\os[11]?=some (.arr H1 1 0 n1)/\os[12]?=some (.arr H2 1 0 n2)/\os[13]?=some (.arr H3 1 0 n3)) ?_ ?_
 ·rw[hkl2,hxl2]
  rw[hkl20,hkl21,hkl22,hkl23]
  refine V5.goO2 A4 rfl ?_
  repeat' first|refine st ?_|((with_reducible first|apply I5|apply I8);(·first|exact hK|exact hD _ _ _ _ _ _);(try rintro _ _ ⟨rfl,rfl⟩))|((with_reducible apply I9);(·first|exact hK|exact hD _ _ _ _ _ _))|refine⟨λ_=>?_,λ_=>?_⟩|fail
  exact⟨rfl,rfl,rfl,rfl,rfl,rfl,rfl,rfl⟩
 ·rintro r os ⟨rfl,hx0,hx1,hx2,hx3,hx4,hx5,hx6⟩
  refine V6 (rows:=[[.arr 10 H0.length,.d (.str u0)],[.arr 11 H1.length,.d (.str u1)],[.arr 12 H2.length,.d (.str u2)],[.arr 13 H3.length,.d (.str u3)]]) (fs:=[I1 i g0,I1 i g1,I1 i g2,I1 i g3]) (.inl (.inl rfl)) hx0 hx1 hx2 rfl (λi e g he hg=>?_)
  match i,he,hg with
  |0,he,hg=>cases he;cases hg;exact⟨10,_,n0,by rw[hu0];rfl,hx3,q0⟩
  |1,he,hg=>cases he;cases hg;exact⟨11,_,n1,by rw[hu1];rfl,hx4,q1⟩
  |2,he,hg=>cases he;cases hg;exact⟨12,_,n2,by rw[hu2];rfl,hx5,q2⟩
  |3,he,hg=>cases he;cases hg;exact⟨13,_,n3,by rw[hu3];rfl,hx6,q3⟩
  |i+4,he,hg=>simp at he
end Go.Proofs
end
section
namespace Go.Proofs
open Go.Bi
theorem A8C{t:Tb}{i:Nat}{co:Co}(h:t.cs[i]?=some co):t.cs.getD i ⟨[],0,false⟩=co:=by
 rw[E8,h];rfl
theorem D4p{t:Tb}{dc dk df dx:D}(h:N6 t dc dk df dx){c:Ch}(hc:H6 c)(hv:Vd t)(b:Bool)(hb:b=true->t.xs=[]) :
  N6 (D7 t c) (.sl (A9 (D7 t c).cs)) (B5 (A5 dk) (A0 (D7 t c).ks)) (dF (D7 t c).fs) (B5 b (xL (D7 t c).xs)):=by
 have hF:∀l:List Fo,B3 (dF l) (G5 l):=λl=>W3 λe=>by
  cases l with
  |nil=>rfl
  |cons a r=>cases e
 have hK:A5 dk=true->t.ks=[]:=λe=>by
  have:=m8 h.dk e
  cases hks:t.ks with
  |nil=>rfl
  |cons a l=>rw[hks] at this;cases this
 have hl:=hv.l2
 have hkd:∀i,(t.cs.getD i ⟨[],0,false⟩).nm.length<=1048576:=λi=>by
  rw[E8]
  cases hh:t.cs[i]? with
  |none=>simp
  |some x=>exact h.hls x (B9 hh)
 have hset:∀i (n:Co),n.nm.length<=1048576->∀x∈t.cs.set i n,x.nm.length<=1048576:=λi n hn x hx=>by
  rcases A9R hx with hx|rfl
  ·exact h.hls x hx
  ·exact hn
 unfold D7
 split
 ·refine⟨h.hn,by rw[J0];simp;omega,λx hx=>?_,h.hk,h.hfl,h.hfc,by rw[C6];exact h.hxs,λe he=>?_,J7,W3 λe=>by rw[hK e];rfl,hF _,W3 λe=>by rw[hb e];rfl⟩
  ·rcases P4.1 hx with hx|hx
   ·exact h.hls x hx
   ·cases i7.1 hx;exact hc.cn
  ·obtain⟨a,ha,rfl⟩:=D9.1 he
   exact O4 (A6b a) (h.hxb a ha)
 ·split
  ·refine⟨h.hn,O4 (List.length_eraseIdx_le ..) (by omega),λx hx=>h.hls x (A9Q hx),by rw[C6];exact h.hk,by rw[C6];exact h.hfl,λf hf=>?_,by rw[C6];exact h.hxs,λe he=>?_,J7,W3 λe=>by rw[hK e];rfl,hF _,W3 λe=>by rw[hb e];rfl⟩
   ·obtain⟨g,hg,rfl⟩:=D9.1 hf
    exact⟨by unfold I1;rw[C6];exact(h.hfc g hg).1,(h.hfc g hg).2⟩
   ·obtain⟨a,ha,rfl⟩:=D9.1 he
    exact O4 (D3I _ a) (h.hxb a ha)
  ·have hx1:∀e∈t.xs.map F6,e.bk<=1048576:=λe he=>by
    obtain⟨a,ha,rfl⟩:=D9.1 he
    exact O4 (A6b a) (h.hxb a ha)
   split
   ·exact⟨h.hn,by rw[U6];omega,hset _ _ hc.to,h.hk,h.hfl,h.hfc,by rw[C6];exact h.hxs,hx1,J7,W3 λe=>by rw[hK e];rfl,hF _,W3 λe=>by rw[hb e];rfl⟩
   ·exact⟨h.hn,by rw[U6];omega,hset _ _ (hkd _),h.hk,h.hfl,h.hfc,by rw[C6];exact h.hxs,hx1,J7,W3 λe=>by rw[hK e];rfl,hF _,W3 λe=>by rw[hb e];rfl⟩
theorem C2D{t:Tb}(hr:t.Rg):t.xs.map (B7 0)=t.xs.map F6:=A8L λa ha=>C1Q a (hr a ha)
theorem A6u{α:Type}{l:List α}(h:l.length<=4):l=[]\/(∃a,l=[a])\/(∃a b,l=[a,b])\/(∃a b c,l=[a,b,c])\/∃a b c d,l=[a,b,c,d]:=by
 match l,h with
 |[],_=>exact .inl rfl
 |[a],_=>exact .inr (.inl ⟨a,rfl⟩)
 |[a,b],_=>exact .inr (.inr (.inl ⟨a,b,rfl⟩))
 |[a,b,c],_=>exact .inr (.inr (.inr (.inl ⟨a,b,c,rfl⟩)))
 |[a,b,c,d],_=>exact .inr (.inr (.inr (.inr ⟨a,b,c,d,rfl⟩)))
 |_::_::_::_::_::_,h=>simp at h
theorem B16{t:Tb}{dc dk df dx:D}(h:N6 t dc dk df dx)(hv:Vd t):dc=.sl (A9 t.cs):=by
 rcases h.dc with ⟨_,h2⟩|h2
 ·have:=hv.l1
  cases hcs:t.cs with
  |nil=>rw[hcs] at this;simp at this
  |cons a l=>rw[hcs] at h2;cases h2
 ·exact h2
theorem C0P{α:Type}{x:α}:∀{l:List α}{i:Nat},l.Nodup->¬x∈l->(l.set i x).Nodup
 |[],_,_,_=>by simp
 |a::l,0,h,hx=>by
  rw[A2L] at h
  rw[List.set_cons_zero,A2L]
  exact⟨λhm=>hx (by simp[hm]),h.2⟩
 |a::l,i+1,h,hx=>by
  rw[A2L] at h
  rw[List.set_cons_succ,A2L]
  refine⟨λhm=>?_,C0P h.2 λhm=>hx (by simp[hm])⟩
  rcases A9R hm with hm|rfl
  ·exact h.1 hm
  ·exact hx (by simp)
theorem C0O{α β:Type}{f:α->β}:∀{l:List α},(∀a∈l,∀b∈l,f a=f b->a=b)->l.Nodup->(l.map f).Nodup
 |[],_,_=>by simp
 |a::l,hf,h=>by
  rw[A2L] at h
  rw[Q8,A2L]
  refine⟨λhm=>?_,C0O (λx hx y hy=>hf x (by simp[hx]) y (by simp[hy])) h.2⟩
  obtain⟨b,hb,e⟩:=D9.1 hm
  have:=hf b (by simp[hb]) a (by simp) e
  subst this
  exact h.1 hb
theorem C1b{f:Int->Int}:∀{l:List Int},(∀a∈l,∀b∈l,a<b->f a<f b)->l.Pairwise (·<·)->(l.map f).Pairwise (·<·)
 |[],_,_=>by simp
 |a::l,hf,h=>by
  rw[A03] at h
  rw[Q8,A03]
  refine⟨λb hb=>?_,C1b (λx hx y hy=>hf x (by simp[hx]) y (by simp[hy])) h.2⟩
  obtain⟨y,hy,rfl⟩:=D9.1 hb
  exact hf a (by simp) y (by simp[hy]) (h.1 y hy)
theorem D2v{i:Nat}{a b:Int}(ha:a≠i)(hb:b≠i)(h:a<b):A6 a i<A6 b i:=by unfold A6;split<;>split<;>omega
theorem D2u{i:Nat}{a b:Int}(ha:a≠i)(hb:b≠i)(h:A6 a i=A6 b i):a=b:=by unfold A6 at h;split at h<;>split at h<;>omega
theorem B8u{i n:Nat}{a:Int}(hi:i<n)(ha:a≠i)(h0:0<=a)(h1:a<n):0<=A6 a i/\A6 a i<((n-1:Nat):Int):=by unfold A6;split<;>omega
theorem D3j(l:List Co)(i:Nat){n:Int}(h0:0<=n)(hne:n≠i):(l.eraseIdx i).getD (A6 n i).toNat ⟨[],0,false⟩=l.getD n.toNat ⟨[],0,false⟩:=by
 rw[E8,E8,A4f]
 unfold A6
 by_cases h:(i:Int)<n
 ·rw[if_pos h,if_neg (by omega)]
  congr 2
  omega
 ·rw[if_neg h,if_pos (by omega)]
theorem B9A{t:Tb}(h:H9 t=0){nm:List UInt8}(hf:D4 nm t.cs<0):¬nm∈t.cs.map Co.nm:=by
 intro hm
 obtain⟨c,hc,rfl⟩:=D9.1 hm
 obtain⟨i,hi⟩:=A1t.1 hc
 rw[D4t (C22 h).2.1 hi] at hf
 omega
theorem A4E{t:Tb}{c:Ch}(h:C7 t c=0):Vd (D7 t c):=by
 obtain⟨q1,q2,q3,q4,q5⟩:=p8 h
 have hv:=V3.1 q1
 have hcp:∀ks,(∀x∈t.xs,F5 ks x=F5 (kd t.cs) x)->∀x∈t.xs.map F6,L9 x<=24/\(F5 ks x).2=0/\((F5 ks x).1=3\/(F5 ks x).1=0):=λks hk x hx=>by
  obtain⟨a,ha,rfl⟩:=D9.1 hx
  rw[B91,B90,hk a ha]
  exact hv.xs a ha
 by_cases k1:c.k=1
 ·obtain⟨a1,a2,a3,a4,_⟩:=B8d (q4 k1)
  have e:D7 t c=⟨t.nm,t.cs++[c.co],t.ks,t.fs,t.xs.map F6⟩:=by unfold D7;rw[if_pos k1]
  rw[e]
  refine⟨hv.nm,by rw[J0];simp,by rw[J0];simp;omega,λx hx=>?_,?_,hv.k0,λk hk=>?_,hv.ka,hv.fl,λf hf=>?_,by rw[C6];exact hv.xl,?_⟩
  ·rcases P4.1 hx with hx|hx
   ·exact hv.co x hx
   ·cases i7.1 hx;exact⟨a2,a3⟩
  ·rw[A0s,List.map_singleton,List.nodup_append]
   refine⟨hv.nd,by simp,λa ha b hb=>?_⟩
   cases i7.1 hb
   intro e
   subst e
   exact B9A q1 a4 ha
  ·obtain⟨b1,b2,b3⟩:=hv.ks k hk
   refine⟨b1,by rw[J0];simp;omega,?_⟩
   rw[E8,K4 (by omega),<- E8]
   exact b3
  ·obtain⟨b1,b2,b3,b4⟩:=hv.fs f hf
   exact⟨b1,b2,λk hk=>by have:=b3 k hk;rw[J0];simp;omega,b4⟩
  ·have ek:kd (t.cs++[c.co])=kd t.cs++[c.co.k]:=by simp[kd]
   dsimp only
   rw[ek]
   exact hcp _ λx hx=>D3a _ x (hv.xs x hx).2.1
 ·obtain⟨i,co,hi,hco,hcn,hus,h4,h3⟩:=A08 (q5 k1)
  have hil:=(A7.1 hco).1
  have hiN:(D4 c.nm t.cs).toNat=i:=by omega
  have hgd:t.cs.getD i ⟨[],0,false⟩=co:=by rw[E8,hco];rfl
  by_cases k2:c.k=2
  ·have e:D7 t c=⟨t.nm,t.cs.eraseIdx i,t.ks.map (λx=>A6 x i),t.fs.map (I1 i),t.xs.map (N4 i)⟩:=by unfold D7;rw[if_neg k1,if_pos k2,hiN]
   have hu:=hus (by omega)
   unfold c9 at hu
   simp only[P4,not_or] at hu
   have u1:∀k∈t.ks,k≠i:=λk hk e=>hu.1.1 (e▸hk)
   have u2:∀f∈t.fs,∀k∈f.cs,k≠i:=λf hf k hk e=>hu.1.2 (A4g.2 ⟨f,hf,e▸hk⟩)
   have u3:∀x∈t.xs,¬(i:Int)∈L0 x:=λx hx hm=>hu.2 (A4g.2 ⟨x,hx,(A8g x i).2 hm⟩)
   have hlen:(t.cs.eraseIdx i).length=t.cs.length-1:=by rw[A1s,if_pos hil]
   have hk2:∀k∈t.ks,0<=A6 k i/\A6 k i<(t.cs.eraseIdx i).length:=λk hk=>by
    obtain⟨b1,b2,b3⟩:=hv.ks k hk
    rw[hlen]
    exact B8u hil (u1 k hk) b1 b2
   have hl1:=hv.l2
   rw[e]
   refine⟨hv.nm,?_,by rw[hlen];omega,λx hx=>hv.co x (A9Q hx),?_,λe=>hv.k0 (List.map_eq_nil_iff.1 e),λk hk=>?_,?_,by rw[C6];exact hv.fl,λf hf=>?_,by rw[C6];exact hv.xl,λx hx=>?_⟩
   ·obtain⟨k,hk⟩:=List.exists_mem_of_ne_nil _ hv.k0
    have:=hk2 k hk
    dsimp only
    omega
   ·dsimp only
    rw[A8K]
    exact hv.nd.sublist (List.eraseIdx_sublist ..)
   ·obtain⟨a,ha,rfl⟩:=D9.1 hk
    obtain⟨b1,b2,b3⟩:=hv.ks a ha
    refine⟨(hk2 a ha).1,(hk2 a ha).2,?_⟩
    dsimp only
    rw[D3j _ _ b1 (u1 a ha)]
    exact b3
   ·exact C1b (λa ha b hb hab=>D2v (u1 a ha) (u1 b hb) hab) hv.ka
   ·obtain⟨g,hg,rfl⟩:=D9.1 hf
    obtain⟨b1,b2,b3,b4⟩:=hv.fs g hg
    refine⟨b1,λe=>b2 (List.map_eq_nil_iff.1 e),λk hk=>?_,C0O (λa ha b hb e=>D2u (u2 g hg a ha) (u2 g hg b hb) e) b4⟩
    obtain⟨a,ha,rfl⟩:=D9.1 hk
    dsimp only
    rw[hlen]
    exact B8u hil (u2 g hg a ha) (b3 a ha).1 (b3 a ha).2
   ·obtain⟨a,ha,rfl⟩:=D9.1 hx
    have ek:kd (t.cs.eraseIdx i)=(kd t.cs).eraseIdx i:=A8K _ _ _
    dsimp only
    rw[ek,D3K,D39 (by rw[Q2];exact hil) a (hv.xs a ha).2.1 (u3 a ha)]
    exact hv.xs a ha
  ·have hset:∀n:Co,n.nl=co.nl->(L5 n.nm=true/\1<=n.k/\n.k<=3)->((t.cs.set i n).map Co.nm).Nodup->(∀x∈t.xs,F5 (kd (t.cs.set i n)) x=F5 (kd t.cs) x)->Vd ⟨t.nm,t.cs.set i n,t.ks,t.fs,t.xs.map F6⟩:=by
    intro n hn1 hn2 hn3 hn4
    refine⟨hv.nm,by rw[U6];exact hv.l1,by rw[U6];exact hv.l2,λx hx=>?_,hn3,hv.k0,λk hk=>?_,hv.ka,hv.fl,λf hf=>?_,by rw[C6];exact hv.xl,hcp _ hn4⟩
    ·rcases A9R hx with hx|rfl
     ·exact hv.co x hx
     ·exact hn2
    ·obtain⟨b1,b2,b3⟩:=hv.ks k hk
     refine⟨b1,by rw[U6];exact b2,?_⟩
     by_cases hki:k.toNat=i
     ·dsimp only
      rw[E8,hki,A0q hil,l9,hn1]
      rw[hki,hgd] at b3
      exact b3
     ·dsimp only
      rw[E8,P3 (λe=>hki e.symm),<- E8]
      exact b3
    ·obtain⟨b1,b2,b3,b4⟩:=hv.fs f hf
     exact⟨b1,b2,λk hk=>by have:=b3 k hk;rw[U6];exact this,b4⟩
   have hcm:=hv.co co (B9 hco)
   by_cases k3:c.k=3
   ·have e:D7 t c=⟨t.nm,t.cs.set i ⟨c.to,co.k,co.nl⟩,t.ks,t.fs,t.xs.map F6⟩:=by unfold D7;rw[if_neg k1,if_neg k2,if_pos k3,hiN,hgd]
    rw[e]
    refine hset ⟨c.to,co.k,co.nl⟩ rfl ⟨(h3 k3).1,hcm.2⟩ ?_ λx hx=>?_
    ·rw[W8]
     exact C0P hv.nd (B9A q1 (h3 k3).2)
    ·congr 1
     unfold kd
     rw[W8]
     refine A3o λj=>?_
     by_cases hj:i=j
     ·subst hj
      rw[A0q (by rw[C6];exact hil),F8,hco];rfl
     ·rw[P3 hj]
   ·have k4:c.k=4:=by omega
    have e:D7 t c=⟨t.nm,t.cs.set i ⟨co.nm,2,co.nl⟩,t.ks,t.fs,t.xs.map F6⟩:=by unfold D7;rw[if_neg k1,if_neg k2,if_neg k3,hiN,hgd]
    have hu:=hus (by omega)
    unfold c9 at hu
    simp only[P4,not_or] at hu
    have u3:∀x∈t.xs,¬(i:Int)∈L0 x:=λx hx hm=>hu.2 (A4g.2 ⟨x,hx,(A8g x i).2 hm⟩)
    rw[e]
    refine hset ⟨co.nm,2,co.nl⟩ rfl ⟨hcm.1,(by decide:(1:Int)<=2),(by decide:(2:Int)<=3)⟩ ?_ λx hx=>?_
    ·have:(t.cs.set i ⟨co.nm,2,co.nl⟩).map Co.nm=t.cs.map Co.nm:=by
      rw[W8]
      refine A3o λj=>?_
      by_cases hj:i=j
      ·subst hj
       rw[A0q (by rw[C6];exact hil),F8,hco];rfl
      ·rw[P3 hj]
     rw[this]
     exact hv.nd
    ·have ek:kd (t.cs.set i ⟨co.nm,2,co.nl⟩)=(kd t.cs).set i 2:=by unfold kd;rw[W8]
     rw[ek]
     exact D3c 2 x (u3 x hx)
def A32(t:Tb)(c:Ch)(k:Int):Int:=
 if C7 t c≠0\/k<0\/(t.cs.length:Int)<=k then -1 else if c.k≠2 then k else if D4 c.nm t.cs=k then -1 else A6 k (D4 c.nm t.cs)
structure TD where
 t:Tb
 dc:D
 dk:D
 df:D
 dx:D
abbrev TD.av(x:TD):AV:=eT x.t.nm x.dc x.dk x.df x.dx
structure TD.ok(x:TD):Prop where
 tok:N6 x.t x.dc x.dk x.df x.dx
 rg:x.t.Rg
def O1:TD:=⟨⟨[],[],[],[],[]⟩,.nil,.nil,.nil,.nil⟩
theorem A1r:O1.ok:=⟨⟨by decide,by decide,by decide,by decide,by decide,λf hf=>by simp[O1] at hf,by decide,λe he=>by simp[O1] at he,A0i,A0i,A0i,A0i⟩,λe he=>by simp[O1] at he⟩
def slX(l:List Ex):D:=B5 (xL l).isEmpty (xL l)
theorem D7j(l:List Ex):B3 (slX l) (xL l):=W3 λe=>u9.1 e
theorem D3x(l:List Fo):B3 (dF l) (G5 l):=W3 λe=>by
 cases l with
 |nil=>rfl
 |cons a r=>cases e
def TD.cp(x:TD):TD:=⟨⟨x.t.nm,x.t.cs,x.t.ks,x.t.fs,x.t.xs.map F6⟩,x.dc,x.dk,dF x.t.fs,slX (x.t.xs.map F6)⟩
theorem TD.cp_ok{x:TD}(h:x.ok):x.cp.ok:=by
 obtain⟨h,hr⟩:=h
 refine⟨⟨h.hn,h.hl,h.hls,h.hk,h.hfl,h.hfc,by show(x.t.xs.map F6).length<=_;rw[C6];exact h.hxs,λe he=>?_,h.dc,h.dk,D3x _,D7j _⟩,λe he=>?_⟩
 ·obtain⟨a,ha,rfl⟩:=D9.1 he
  exact O4 (A6b a) (h.hxb a ha)
 ·obtain⟨a,ha,rfl⟩:=D9.1 he
  exact B13 a (hr a ha)
theorem A8N(x:TD):nf x.cp.t=nf x.t:=by
 unfold nf TD.cp
 dsimp only
 rw[A0K (h:=F6) λa ha=>B12 a]
theorem TD.cp_vd{x:TD}(h:H9 x.t=0):H9 x.cp.t=0:=by rw[<- A77,A8N,A77];exact h
def TD.evo(x:TD)(c:Ch):TD:=⟨D7 x.t c,.sl (A9 (D7 x.t c).cs),B5 (A5 x.dk) (A0 (D7 x.t c).ks),dF (D7 x.t c).fs,slX (D7 x.t c).xs⟩
theorem TD.evo_ok{x:TD}(h:x.ok){c:Ch}(hc:H6 c)(hq:C7 x.t c=0):(x.evo c).ok:=by
 have hx:slX (D7 x.t c).xs=B5 (xL (x.t.xs.map F6)).isEmpty (xL (D7 x.t c).xs):=by
  unfold slX
  congr 1
  unfold D7
  split
  ·rfl
  ·split
   ·cases x.t.xs<;>rfl
   ·split<;>rfl
 have hb:(xL (x.t.xs.map F6)).isEmpty=true->x.t.xs=[]:=λe=>by
  cases hxs:x.t.xs with
  |nil=>rfl
  |cons a l=>rw[hxs] at e;cases e
 refine⟨?_,D4o h.rg c⟩
 unfold TD.evo
 dsimp only
 rw[hx]
 exact D4p h.tok hc (V3.1 (p8 hq).1) _ hb
theorem B2I(x:TD)(h:x.ok)(c:Ch)(hc:H6 c)(hq:C7 x.t c=0):Pure Tryz.prog Q9 [x.av,c.av] (.tup [(x.evo c).av,.d (eI 0)]):=by
 obtain⟨t,dc,dk,df,dx⟩:=x
 obtain⟨h,hr⟩:=h
 dsimp only at h hr hq
 obtain⟨q1,q2,q3,q4,q5⟩:=p8 hq
 have hv:=V3.1 q1
 have hdc:=B16 h hv
 have hx:=C2D hr
 have hnm:(D7 t c).nm=t.nm:=by unfold D7;split;rfl;split;rfl;split<;>rfl
 have he:slX (D7 t c).xs=B5 (xL (t.xs.map (B7 0))).isEmpty (xL (D7 t c).xs):=by
  rw[hx]
  unfold slX
  congr 1
  unfold D7
  split
  ·rfl
  ·split
   ·cases t.xs<;>rfl
   ·split<;>rfl
 unfold TD.av TD.evo
 dsimp only
 rw[hnm,he]
 by_cases k1:c.k=1
 ·have e:D7 t c=⟨t.nm,t.cs++[c.co],t.ks,t.fs,t.xs.map F6⟩:=by unfold D7;rw[if_pos k1]
  rw[e,<- hx]
  rcases A6u hv.fl with hf|⟨a0,hf⟩|⟨a0,a1,hf⟩|⟨a0,a1,a2,hf⟩|⟨a0,a1,a2,a3,hf⟩
  ·exact C2K t dc dk df dx h c hc hq hf k1
  ·exact C2O t dc dk df dx h c hc hq a0 hf k1
  ·exact C2S t dc dk df dx h c hc hq a0 a1 hf k1
  ·exact C2W t dc dk df dx h c hc hq a0 a1 a2 hf k1
  ·exact C30 t dc dk df dx h c hc hq a0 a1 a2 a3 hf k1
 ·obtain⟨i,co,hi,hco,hcn,hus,_,_⟩:=A08 (q5 k1)
  have hil:=(A7.1 hco).1
  have hiN:(D4 c.nm t.cs).toNat=i:=by omega
  by_cases k2:c.k=2
  ·have e:D7 t c=⟨t.nm,t.cs.eraseIdx i,t.ks.map (λx=>A6 x i),t.fs.map (I1 i),t.xs.map (N4 i)⟩:=by unfold D7;rw[if_neg k1,if_pos k2,hiN]
   have hxd:(t.xs.map (B7 0)).map (D8 (H5 t.cs.length i))=t.xs.map (N4 i):=by
    rw[hx]
    exact A0K λa ha=>D7s i (Q2 _) a (hv.xs a ha).2.1
   rw[e,<- hxd]
   have b1:∀k∈t.ks,0<=k/\k<=1048576:=λk hk=>by have:=hv.ks k hk;have:=hv.l2;omega
   have b2:∀g∈t.fs,∀k∈g.cs,0<=k/\k<=1048576:=λg hg k hk=>by have:=(hv.fs g hg).2.2.1 k hk;have:=hv.l2;omega
   have b3:∀e∈t.xs.map (B7 0),e.bk<=1048576:=λe he=>by
    rw[hx] at he
    obtain⟨a,ha,rfl⟩:=D9.1 he
    exact O4 (A6b a) (h.hxb a ha)
   rcases A6u hv.fl with hf|⟨a0,hf⟩|⟨a0,a1,hf⟩|⟨a0,a1,a2,hf⟩|⟨a0,a1,a2,a3,hf⟩
   ·exact C2L t dc dk df dx h c hc hq hf k2 i hi hil hdc b1 b2 b3
   ·exact C2P t dc dk df dx h c hc hq a0 hf k2 i hi hil hdc b1 b2 b3
   ·exact C2T t dc dk df dx h c hc hq a0 a1 hf k2 i hi hil hdc b1 b2 b3
   ·exact C2X t dc dk df dx h c hc hq a0 a1 a2 hf k2 i hi hil hdc b1 b2 b3
   ·exact C31 t dc dk df dx h c hc hq a0 a1 a2 a3 hf k2 i hi hil hdc b1 b2 b3
  ·by_cases k3:c.k=3
   ·have e:D7 t c=⟨t.nm,t.cs.set i ⟨c.to,co.k,co.nl⟩,t.ks,t.fs,t.xs.map F6⟩:=by unfold D7;rw[if_neg k1,if_neg k2,if_pos k3,hiN,A8C hco]
    rw[e,<- hx]
    rcases A6u hv.fl with hf|⟨a0,hf⟩|⟨a0,a1,hf⟩|⟨a0,a1,a2,hf⟩|⟨a0,a1,a2,a3,hf⟩
    ·exact C2M t dc dk df dx h c hc hq hf k3 i hi co hco hdc
    ·exact C2Q t dc dk df dx h c hc hq a0 hf k3 i hi co hco hdc
    ·exact C2U t dc dk df dx h c hc hq a0 a1 hf k3 i hi co hco hdc
    ·exact C2Y t dc dk df dx h c hc hq a0 a1 a2 hf k3 i hi co hco hdc
    ·exact C32 t dc dk df dx h c hc hq a0 a1 a2 a3 hf k3 i hi co hco hdc
   ·have k4:c.k=4:=by omega
    have e:D7 t c=⟨t.nm,t.cs.set i ⟨co.nm,2,co.nl⟩,t.ks,t.fs,t.xs.map F6⟩:=by unfold D7;rw[if_neg k1,if_neg k2,if_neg k3,hiN,A8C hco]
    rw[e,<- hx]
    rcases A6u hv.fl with hf|⟨a0,hf⟩|⟨a0,a1,hf⟩|⟨a0,a1,a2,hf⟩|⟨a0,a1,a2,a3,hf⟩
    ·exact C2N t dc dk df dx h c hc hq hf k4 i hi co hco hdc
    ·exact C2R t dc dk df dx h c hc hq a0 hf k4 i hi co hco hdc
    ·exact C2V t dc dk df dx h c hc hq a0 a1 hf k4 i hi co hco hdc
    ·exact C2Z t dc dk df dx h c hc hq a0 a1 a2 hf k4 i hi co hco hdc
    ·exact C33 t dc dk df dx h c hc hq a0 a1 a2 a3 hf k4 i hi co hco hdc
theorem B2J(x:TD)(h:x.ok)(c:Ch)(hc:H6 c)(hq:C7 x.t c≠0):Pure Tryz.prog Q9 [x.av,c.av] (.tup [O1.av,.d (eI (C7 x.t c))]):=
 C34 x.t x.dc x.dk x.df x.dx h.tok c hc hq
theorem D3E{os:List AO}{nm:List UInt8}{a b f x:Nat}{K X Cs:List (List D)}{rows:List (List AV)}{fs:List Fo}{cn kn xn nl:Bool}{cz kz xz cf kf xf lf:Nat}(hlf:lf=rows.length)
  (h1:os[a]?=some (.arr Cs cz cf cn)) (h2:os[b]?=some (.arr K kz kf kn)) (h3:os[f]?=some (.rarr rows 2 nl)) (h4:os[x]?=some (.arr X xz xf xn)) (hl:fs.length=rows.length)
  (hr:∀(i:Nat) e (g:Fo),rows[i]?=some e->fs[i]?=some g->∃q es fl,e=[.arr q es.length,.d (.str g.tb)]/\os[q]?=some (.arr es 1 0 fl)/\g.d=B5 fl es) :
  DA os (.agg [.d (.str nm),.arr a Cs.length,.arr b K.length,.rs f lf,.arr x X.length]) (eT nm (B5 cn Cs) (B5 kn K) (B5 nl (G5 fs)) (B5 xn X)):=by
 subst hlf
 have h:=V6 (nm:=nm) (e:=.nil) (.inl (.inr ⟨a,Cs,cz,cf,cn,rfl,h1,rfl⟩)) h2 h3 h4 hl hr
 rcases h with h|⟨cs,rs,e1,e2,e3,e4⟩
 ·rcases h with ⟨x,hx,_⟩|⟨_,_,hx,_⟩
  ·rcases hx with (hx|⟨_,_,_,_,_,hx,_⟩)|⟨_,_,_,_,_,hx,_⟩<;>cases hx
  ·cases hx
 ·cases e1;cases e2
  exact .inl (e4 0 _ _ rfl rfl)
theorem B22:∀(k:Nat)(l:List Fi),(A3U k l).length=l.length
 |_,[]=>rfl
 |k,f::fs=>by rw[A3U,H7,B22 (k+1) fs,H7]
theorem C1E:∀(l:List Fi)(k i:Nat)(f:Fi),l[i]?=some f->(A3U k l)[i]?=some [.arr (k+i) f.es.length,.d (.str f.tb)]
 |[],_,i,f,h=>by simp at h
 |a::l,k,0,f,h=>by cases h;rfl
 |a::l,k,i+1,f,h=>by
  rw[A3U,l6,C1E l (k+1) i f (by simpa using h),show k+1+i=k+(i+1) by omega]
def Fi.of(g:Fo):Fi:=⟨g.d,A0 g.cs,A5 g.d,g.tb⟩
theorem A7m(x:TD)(h:x.ok)(hf4:x.t.fs.length<=4):Pure Tryz.prog A0Z [x.av] x.cp.av:=by
 obtain⟨t,dc,dk,df,dx⟩:=x
 obtain⟨h,hr⟩:=h
 dsimp only at h hr hf4
 have hx:=C2D hr
 have hok:∀g∈t.fs,(Fi.of g).ok:=λg hg=>G4 _ (by rw[B4];have:=(h.hfc g hg).1;omega) (C9 _) g.d g.sld
 have hC:=V4 (A9 t.cs) (by rw[F3];have:=h.hl;omega) (H8 _) dc h.dc
 have hI:=G4 (A0 t.ks) (by rw[B4];have:=h.hk;omega) (C9 _) dk h.dk
 have key:∀(l:List Fi) (hl:l=t.fs.map Fi.of) (n:Nat) (hn:n=l.length) (tab out:List AV),DA (j6 tab out t.nm (A9 t.cs) (A0 t.ks) (A5 dc) (A5 dk) l (xL (t.xs.map (B7 0))) (xL (t.xs.map (B7 0))).isEmpty) (.agg (oB t.nm (A9 t.cs).length (A0 t.ks).length n (xL (t.xs.map (B7 0))).length))
   (eT t.nm (B5 (A5 dc) (A9 t.cs)) (B5 (A5 dk) (A0 t.ks)) (B5 l.isEmpty (G5 t.fs)) (B5 (xL (t.xs.map (B7 0))).isEmpty (xL (t.xs.map (B7 0))))):=by
  intro l hl n hn tab out
  refine D3E (rows:=A3U 7 l) (fs:=t.fs) (by rw[B22];exact hn) rfl rfl rfl rfl (by rw[B22,hl,C6]) λi e g he hg=>?_
  have h1:l[i]?=some (Fi.of g):=by rw[hl,F8,hg];rfl
  rw[C1E l 7 i _ h1] at he
  cases he
  refine⟨7+i,A0 g.cs,A5 g.d,rfl,?_,(O6 g.sld).symm⟩
  unfold j6
  rw[P8 (by simp)]
  show(B1A l)[7+i-7]?=_
  unfold B1A
  rw[show 7+i-7=i by omega,F8,h1]
  rfl
 have fin:∀(l:List Fi),l=t.fs.map Fi.of->TD.av (TD.cp ⟨t,dc,dk,df,dx⟩)=eT t.nm (B5 (A5 dc) (A9 t.cs)) (B5 (A5 dk) (A0 t.ks)) (B5 l.isEmpty (G5 t.fs)) (B5 (xL (t.xs.map (B7 0))).isEmpty (xL (t.xs.map (B7 0)))):=by
  intro l hl
  rw[O6 h.dc,O6 h.dk,hx,hl]
  unfold TD.av TD.cp dF slX
  dsimp only
  have e:(t.fs.map Fi.of).isEmpty=t.fs.isEmpty:=by cases t.fs<;>rfl
  rw[e]
 have hdf:=h.df
 rcases A6u hf4 with hf|⟨a0,hf⟩|⟨a0,a1,hf⟩|⟨a0,a1,a2,hf⟩|⟨a0,a1,a2,a3,hf⟩
 ·have hd:B3 df []:=by rw[hf] at hdf;exact hdf
  refine B0.deepP (A5a t.nm dc dk df dx (A9 t.cs) (A0 t.ks) (A5 dc) (A5 dk) hC hI hd t.xs h.hxb h.hxs h.dx) ?_
  rintro r os ⟨rfl,rfl⟩
  rw[fin [] (by rw[hf];rfl)]
  exact key [] (by rw[hf];rfl) 0 rfl _ _
 all_goals
  have hd:df=.sl (R6 (t.fs.map Fi.of)):=by
   have e:R6 (t.fs.map Fi.of)=G5 t.fs:=by unfold R6 G5;rw[l7];rfl
   rw[e]
   rcases hdf with ⟨_,h2⟩|h2
   ·rw[hf] at h2;cases h2
   ·exact h2
  rw[hf] at hd
 ·refine B0.deepP (A5b t.nm dc dk df dx (A9 t.cs) (A0 t.ks) (A5 dc) (A5 dk) hC hI (Fi.of a0) (hok a0 (by rw[hf];simp)) hd t.xs h.hxb h.hxs h.dx) ?_
  rintro r os ⟨rfl,rfl⟩
  rw[fin [Fi.of a0] (by rw[hf];rfl)]
  exact key _ (by rw[hf];rfl) 1 rfl _ _
 ·refine B0.deepP (A5c t.nm dc dk df dx (A9 t.cs) (A0 t.ks) (A5 dc) (A5 dk) hC hI (Fi.of a0) (Fi.of a1) (hok a0 (by rw[hf];simp)) (hok a1 (by rw[hf];simp)) hd t.xs h.hxb h.hxs h.dx) ?_
  rintro r os ⟨rfl,rfl⟩
  rw[fin [Fi.of a0,Fi.of a1] (by rw[hf];rfl)]
  exact key _ (by rw[hf];rfl) 2 rfl _ _
 ·refine B0.deepP (A5d t.nm dc dk df dx (A9 t.cs) (A0 t.ks) (A5 dc) (A5 dk) hC hI (Fi.of a0) (Fi.of a1) (Fi.of a2) (hok a0 (by rw[hf];simp)) (hok a1 (by rw[hf];simp)) (hok a2 (by rw[hf];simp)) hd t.xs h.hxb h.hxs h.dx) ?_
  rintro r os ⟨rfl,rfl⟩
  rw[fin [Fi.of a0,Fi.of a1,Fi.of a2] (by rw[hf];rfl)]
  exact key _ (by rw[hf];rfl) 3 rfl _ _
 ·refine B0.deepP (A5e t.nm dc dk df dx (A9 t.cs) (A0 t.ks) (A5 dc) (A5 dk) hC hI (Fi.of a0) (Fi.of a1) (Fi.of a2) (Fi.of a3) (hok a0 (by rw[hf];simp)) (hok a1 (by rw[hf];simp)) (hok a2 (by rw[hf];simp)) (hok a3 (by rw[hf];simp)) hd t.xs h.hxb h.hxs h.dx) ?_
  rintro r os ⟨rfl,rfl⟩
  rw[fin [Fi.of a0,Fi.of a1,Fi.of a2,Fi.of a3] (by rw[hf];rfl)]
  exact key _ (by rw[hf];rfl) 4 rfl _ _
theorem B2W(ks:List Int)(hk:ks.length<=1048576)(hb:∀k∈ks,0<=k/\k<=1048576)(i:Int)(d:D)(hd:B3 d (A0 ks)):Pure Tryz.prog B6Z [.d d,.d (eI i)] (.d (.sl (A0 (ks.map λc=>A6 c i)))):=by
 refine C5F.go A4 rfl ?_
 have h1:=B4 ks
 obtain⟨R,hR⟩:∃R,R=A0 (ks.map λc=>A6 c i):=⟨_,rfl⟩
 rw[<- hR]
 repeat' first|refine st ?_|((with_reducible apply C4);conv=>whnf)|refine⟨λ_=>?_,λ_=>?_⟩|fail
 refine I2 A4 C8P C7H (λ(j:Nat) (es:List (List D))=>[.arr 0 es.length,.d (eI j)]) (λj es=>[.arr es 1 0 false]) (λj es=>j<=ks.length/\es=A0 ((ks.take j).map λc=>A6 c i)) (λj _=>ks.length-j) 0 [] rfl rfl rfl rfl (λ_ _ _=>⟨rfl,rfl⟩) rfl ⟨by omega,rfl⟩ ?_
 repeat' first|refine st ?_|((with_reducible apply C4);conv=>whnf)|refine⟨λ_=>?_,λ_=>?_⟩|fail
 intro j es ⟨h2,h3⟩
 have hes:es.length=j:=by rw[h3,B4,C6,J1];omega
 have hem:∀e∈es,e.length=1:=by rw[h3];exact C9 _
 cases hx:ks[j]? with
 |some c=>
  have hlt:=(A7.1 hx).1
  have hg:=K5 hx
  obtain⟨b1,b2⟩:=hb c (B9 hx)
  have hs:es++[[eI (A6 c i)]]=A0 ((ks.take (j+1)).map λc=>A6 c i):=by rw[h3,P1,hx];simp[A0]
  unfold A6 at hs
  by_cases hc:i<c
  ·rw[if_pos hc] at hs
   clear h3
   repeat' first|refine st ?_|((with_reducible apply C4);conv=>whnf)|refine⟨λ_=>?_,λ_=>?_⟩|fail
   exact⟨j+1,es++[[eI (c-1)]],rfl,rfl,rfl,by omega,by omega,hs⟩
  ·rw[if_neg hc] at hs
   clear h3
   repeat' first|refine st ?_|((with_reducible apply C4);conv=>whnf)|refine⟨λ_=>?_,λ_=>?_⟩|fail
   exact⟨j+1,es++[[eI c]],rfl,rfl,rfl,by omega,by omega,hs⟩
 |none=>
  have hge:=C8.1 hx
  rw[J5 hge,<- hR] at h3
  subst h3
  repeat' first|refine st ?_|((with_reducible apply C4);conv=>whnf)|refine⟨λ_=>?_,λ_=>?_⟩|fail
  all_goals rfl
theorem C48(i:Nat):∀e:Ex,e.bk<=1048576->e.Rg->Pure Tryz.prog B70 [e.av,.d (eI i)] (N4 i e).av:=by
 refine Ex.ind λop n v nm nl args ih hb hr=>?_
 obtain⟨b1,b2,b3,b4⟩:=Ex.bk_bounds hb
 cases hr with
 |mk r1 r2 hra=>
 rw[A2T,Ex.av_mk]
 have h1:=I7 args
 have hm:=O7 args
 obtain⟨da,hda⟩:∃d,d=ng nl (xL args):=⟨_,rfl⟩
 have hsd:B3 da (xL args):=by rw[hda];exact t7
 rw[<- hda]
 have r0:v.k=v.k:=rfl
 have r1':v.s=v.s:=rfl
 have r2':nm=nm:=rfl
 have q1:IntKind.i64.min=-9223372036854775808:=rfl
 have q2:IntKind.i64.max=9223372036854775807:=rfl
 obtain⟨n',hn'⟩:∃n',n'=(if op=2 then A6 n i else n):=⟨_,rfl⟩
 rw[<- hn',Ex.av_mk,A8O]
 have key:(op=2/\(i:Int)<n/\n-1=n')\/(op=2/\¬(i:Int)<n/\n=n')\/(op≠2/\n=n'):=by
  by_cases h2:op=2
  ·rw[if_pos h2] at hn'
   unfold A6 at hn'
   by_cases h3:(i:Int)<n
   ·rw[if_pos h3] at hn';exact .inl ⟨h2,h3,hn'.symm⟩
   ·rw[if_neg h3] at hn';exact .inr (.inl ⟨h2,h3,hn'.symm⟩)
  ·rw[if_neg h2] at hn';exact .inr (.inr ⟨h2,hn'.symm⟩)
 clear hn'
 refine C5G.go A4 rfl ?_
 rcases key with ⟨g1,g2,rfl⟩|⟨g1,g2,rfl⟩|⟨g1,rfl⟩
 ·subst g1
  repeat' first|refine st ?_|((with_reducible apply C4);conv=>whnf)|refine⟨λ_=>?_,λ_=>?_⟩|fail
  refine A3g 2 6 7 rfl rfl rfl ?_
  refine I2 A4 B6r B6e (λ(j:Nat) (w:List (List D)×Bool)=>[.d (eI j)]) (λj w=>[.cells [.d (eI 2),.d (eI n),.d (eI v.k),.d (eI v.n),.d (.str v.s),.d (.str nm),.d da],.cells [.d (eI 0),.d (eI 0),.d (eI 0),.d (eI 0),.d (.str []),.d (.str []),.d .nil],.cells [.d (eI 2),.d (eI (n-1)),.d (eI v.k),.d (eI v.n),.d (.str v.s),.d (.str nm),.arr 3 w.1.length],.arr w.1 7 0 w.2]) (λj w=>j<=args.length/\w.1=Mt (N4 i) args j/\w.2=w.1.isEmpty) (λj w=>args.length-j) 0 ([],true) rfl rfl rfl rfl (λ_ _ _=>⟨rfl,rfl⟩) rfl ⟨by omega,rfl,rfl⟩ ?_
  repeat' first|refine st ?_|((with_reducible apply C4);conv=>whnf)|refine⟨λ_=>?_,λ_=>?_⟩|fail
  intro j w ⟨h4,h5,h6⟩
  obtain⟨A,b⟩:=w
  dsimp only at h5 h6 ⊢
  have hAl:A.length=j:=by rw[h5];exact A05 _ args j (by omega)
  have hAm:∀e∈A,e.length=7:=by rw[h5];exact A06 _ _ _
  cases hx:args[j]? with
  |some x=>
   have hlt:=(A7.1 hx).1
   have hs:=A07 (φ:=N4 i) hx
   have hg:=t8 hx
   have hi:=ih x (B9 hx) (b4 x (B9 hx)) (hra x (B9 hx))
   rw[<- h5] at hs
   obtain⟨z,hz⟩:∃z,z=N4 i x:=⟨_,rfl⟩
   rw[<- hz] at hs hi
   obtain⟨o1,n1,v1,m1,l1,a1⟩:=x
   obtain⟨o2,n2,v2,m2,l2,a2⟩:=z
   rw[Ex.ds_mk] at hg hs
   rw[Ex.av_mk,Ex.av_mk] at hi
   repeat' first|refine st ?_|((with_reducible apply C4);conv=>whnf)|refine⟨λ_=>?_,λ_=>?_⟩|fail
   exact⟨j+1,(A++[W6 o2 n2 v2 m2 (ng l2 (xL a2))],false),rfl,rfl,rfl,by omega,by omega,hs,by simp⟩
  |none=>
   have hge:=C8.1 hx
   rw[A04 hge] at h5
   rw[<- h5,<- h6]
   cases b with
   |true=>
    rw[if_pos rfl]
    repeat' first|refine st ?_|((with_reducible apply C4);conv=>whnf)|refine⟨λ_=>?_,λ_=>?_⟩|fail
    all_goals rfl
   |false=>
    rw[if_neg (by simp)]
    repeat' first|refine st ?_|((with_reducible apply C4);conv=>whnf)|refine⟨λ_=>?_,λ_=>?_⟩|fail
    all_goals rfl
 all_goals
  repeat' first|refine st ?_|((with_reducible apply C4);conv=>whnf)|refine⟨λ_=>?_,λ_=>?_⟩|fail
  refine A3g 2 6 7 rfl rfl rfl ?_
  refine I2 A4 B6r B6e (λ(j:Nat) (w:List (List D)×Bool)=>[.d (eI j)]) (λj w=>[.cells [.d (eI op),.d (eI n),.d (eI v.k),.d (eI v.n),.d (.str v.s),.d (.str nm),.d da],.cells [.d (eI 0),.d (eI 0),.d (eI 0),.d (eI 0),.d (.str []),.d (.str []),.d .nil],.cells [.d (eI op),.d (eI n),.d (eI v.k),.d (eI v.n),.d (.str v.s),.d (.str nm),.arr 3 w.1.length],.arr w.1 7 0 w.2]) (λj w=>j<=args.length/\w.1=Mt (N4 i) args j/\w.2=w.1.isEmpty) (λj w=>args.length-j) 0 ([],true) rfl rfl rfl rfl (λ_ _ _=>⟨rfl,rfl⟩) rfl ⟨by omega,rfl,rfl⟩ ?_
  repeat' first|refine st ?_|((with_reducible apply C4);conv=>whnf)|refine⟨λ_=>?_,λ_=>?_⟩|fail
  intro j w ⟨h4,h5,h6⟩
  obtain⟨A,b⟩:=w
  dsimp only at h5 h6 ⊢
  have hAl:A.length=j:=by rw[h5];exact A05 _ args j (by omega)
  have hAm:∀e∈A,e.length=7:=by rw[h5];exact A06 _ _ _
  cases hx:args[j]? with
  |some x=>
   have hlt:=(A7.1 hx).1
   have hs:=A07 (φ:=N4 i) hx
   have hg:=t8 hx
   have hi:=ih x (B9 hx) (b4 x (B9 hx)) (hra x (B9 hx))
   rw[<- h5] at hs
   obtain⟨z,hz⟩:∃z,z=N4 i x:=⟨_,rfl⟩
   rw[<- hz] at hs hi
   obtain⟨o1,n1,v1,m1,l1,a1⟩:=x
   obtain⟨o2,n2,v2,m2,l2,a2⟩:=z
   rw[Ex.ds_mk] at hg hs
   rw[Ex.av_mk,Ex.av_mk] at hi
   repeat' first|refine st ?_|((with_reducible apply C4);conv=>whnf)|refine⟨λ_=>?_,λ_=>?_⟩|fail
   exact⟨j+1,(A++[W6 o2 n2 v2 m2 (ng l2 (xL a2))],false),rfl,rfl,rfl,by omega,by omega,hs,by simp⟩
  |none=>
   have hge:=C8.1 hx
   rw[A04 hge] at h5
   rw[<- h5,<- h6]
   cases b with
   |true=>
    rw[if_pos rfl]
    repeat' first|refine st ?_|((with_reducible apply C4);conv=>whnf)|refine⟨λ_=>?_,λ_=>?_⟩|fail
    all_goals rfl
   |false=>
    rw[if_neg (by simp)]
    repeat' first|refine st ?_|((with_reducible apply C4);conv=>whnf)|refine⟨λ_=>?_,λ_=>?_⟩|fail
    all_goals rfl
def F0(l:List Fo):List (List D):=G5 (l.map U0)
theorem B3B(l:List Fo):(F0 l).length=l.length:=by unfold F0;rw[A0C,C6]
theorem B3C(l:List Fo):∀e∈F0 l,e.length=2:=A2j _
theorem B3D{l:List Fo}{i:Nat}{f:Fo}(h:l[i]?=some f):F0 (l.take i)++[[.sl (A0 f.cs),.str f.tb]]=F0 (l.take (i+1)):=by
 unfold F0
 rw[P1,h]
 simp[G5,U0,Fo.ds,Fo.d,ng]
theorem B2T(x:TD)(h:x.ok):B0 Tryz.prog A4k [x.av] [] (λr os=>r=.agg [.d (.str x.t.nm),.arr 3 (A9 x.t.cs).length,.arr 4 (A0 x.t.ks).length,.arr 5 (F0 x.t.fs).length,.arr 6 (xL (x.t.xs.map F6)).length]/\
  ∃a b c,os=[a,b,c,.arr (A9 x.t.cs) 3 0 (A9 x.t.cs).isEmpty,.arr (A0 x.t.ks) 1 0 (A0 x.t.ks).isEmpty,.arr (F0 x.t.fs) 2 0 (F0 x.t.fs).isEmpty,.arr (xL (x.t.xs.map F6)) 7 0 (xL (x.t.xs.map F6)).isEmpty]):=by
 obtain⟨⟨nm,cs,ks,fs,xs⟩,dc,dk,df,dx⟩:=x
 obtain⟨⟨h1,h2,h3,h4,h5,h6,h7,h8,h9,h10,h11,h12⟩,hr⟩:=h
 dsimp only at h1 h2 h3 h4 h5 h6 h7 h8 h9 h10 h11 h12 hr ⊢
 have c1:=F3 cs
 have c2:=H8 cs
 have k1:=B4 ks
 have k2:=C9 ks
 have f1:=A0C fs
 have f2:=A2j fs
 have f3:=λi f=>@A2V fs i f
 have x1:=I7 xs
 have x2:=O7 xs
 have x3:=o3 (args:=xs)
 obtain⟨Cs,hCs⟩:∃z,z=A9 cs:=⟨_,rfl⟩
 obtain⟨Ks,hKs⟩:∃z,z=A0 ks:=⟨_,rfl⟩
 obtain⟨Fs,hFs⟩:∃z,z=G5 fs:=⟨_,rfl⟩
 obtain⟨Xs,hXs⟩:∃z,z=xL xs:=⟨_,rfl⟩
 obtain⟨FR,hFR⟩:∃z,z=F0 fs:=⟨_,rfl⟩
 obtain⟨XR,hXR⟩:∃z,z=xL (xs.map F6):=⟨_,rfl⟩
 rw[<- hCs] at c1 c2 h9 ⊢
 rw[<- hKs] at k1 k2 h10 ⊢
 rw[<- hFs] at f1 f2 f3 h11
 rw[<- hXs] at x1 x2 x3 h12
 rw[<- hFR,<- hXR]
 have b1:(([]:List (List D)).length+Cs.length)*32<=140737488355328/\([]:List (List D)).length+Cs.length<=9223372036854775807:=by rw[P9];omega
 have b2:(([]:List (List D)).length+Ks.length)*8<=140737488355328/\([]:List (List D)).length+Ks.length<=9223372036854775807:=by rw[P9];omega
 refine C5r.goO A4 rfl ?_
 repeat' first|refine st ?_|refine⟨λ_=>?_,λ_=>?_⟩|fail
 refine A3g 2 3 2 rfl rfl rfl ?_
 refine I2 A4 C8z C7r (λ(i:Nat) (w:List (List D)×Bool)=>[.d (eI i)]) (λi w=>[.cells [.d (.str nm),.d dc,.d dk,.d df,.d dx],.cells [.d (.str []),.d .nil,.d .nil,.d .nil,.d .nil],.cells [.d (.str nm),.arr 3 Cs.length,.arr 4 Ks.length,.arr 5 w.1.length,.d .nil],.arr Cs 3 0 Cs.isEmpty,.arr Ks 1 0 Ks.isEmpty,.arr w.1 2 0 w.2]) (λi w=>i<=fs.length/\w.1=F0 (fs.take i)/\w.2=w.1.isEmpty) (λi w=>fs.length-i) 0 ([],true) rfl rfl rfl rfl (λ_ _ _=>⟨rfl,rfl⟩) rfl ⟨by omega,rfl,rfl⟩ ?_
 repeat' first|refine st ?_|refine⟨λ_=>?_,λ_=>?_⟩|fail
 intro i w ⟨g1,g2,g3⟩
 obtain⟨A,b⟩:=w
 dsimp only at g2 g3 ⊢
 have hAl:A.length=i:=by rw[g2,B3B,J1];omega
 have hAm:∀e∈A,e.length=2:=by rw[g2];exact B3C _
 cases hy:fs[i]? with
 |some f=>
  have hlt:=(A7.1 hy).1
  have hg:=f3 i f hy
  have hs:=B3D hy
  rw[<- g2] at hs
  have hfb:=(h6 f (B9 hy)).1
  have e1:=f.sld
  have e2:=B4 f.cs
  have e3:=C9 f.cs
  unfold Fo.ds at hg
  obtain⟨fd,hfd⟩:∃z,z=f.d:=⟨_,rfl⟩
  obtain⟨E,hE⟩:∃z,z=A0 f.cs:=⟨_,rfl⟩
  obtain⟨tb,htb⟩:∃z,z=f.tb:=⟨_,rfl⟩
  rw[<- hfd] at hg e1
  rw[<- htb] at hg hs
  rw[<- hE] at e1 e2 e3 hs
  have b3:(([]:List (List D)).length+E.length)*8<=140737488355328/\([]:List (List D)).length+E.length<=9223372036854775807:=by rw[P9];omega
  clear g2
  repeat' first|refine st ?_|refine⟨λ_=>?_,λ_=>?_⟩|fail
  exact⟨i+1,(A++[[.sl E,.str tb]],false),rfl,rfl,by first|rfl|(simp[CnD];done),by omega,by omega,hs,by simp⟩
 |none=>
  have hge:=C8.1 hy
  rw[J5 hge,<- hFR] at g2
  subst g2
  subst g3
  repeat' first|refine st ?_|refine⟨λ_=>?_,λ_=>?_⟩|fail
  refine A3g 2 4 7 rfl rfl rfl ?_
  refine I2 A4 C8A C7s (λ(i:Nat) (w:List (List D)×Bool)=>[.d (eI i)]) (λi w=>[.cells [.d (.str nm),.d dc,.d dk,.d df,.d dx],.cells [.d (.str []),.d .nil,.d .nil,.d .nil,.d .nil],.cells [.d (.str nm),.arr 3 Cs.length,.arr 4 Ks.length,.arr 5 A.length,.arr 6 w.1.length],.arr Cs 3 0 Cs.isEmpty,.arr Ks 1 0 Ks.isEmpty,.arr A 2 0 A.isEmpty,.arr w.1 7 0 w.2]) (λi w=>i<=xs.length/\w.1=Mt F6 xs i/\w.2=w.1.isEmpty) (λi w=>xs.length-i) 0 ([],true) rfl rfl rfl rfl (λ_ _ _=>⟨rfl,rfl⟩) rfl ⟨by omega,rfl,rfl⟩ ?_
  repeat' first|refine st ?_|refine⟨λ_=>?_,λ_=>?_⟩|fail
  intro q w ⟨g4,g5,g6⟩
  obtain⟨B,b⟩:=w
  dsimp only at g5 g6 ⊢
  have hBl:B.length=q:=by rw[g5];exact A05 _ xs q (by omega)
  have hBm:∀e∈B,e.length=7:=by rw[g5];exact A06 _ _ _
  cases hx:xs[q]? with
  |some y=>
   have hlt:=(A7.1 hx).1
   have hs:=A07 (φ:=F6) hx
   have hS:=C3U 0 y (h8 y (B9 hx))
   rw[C1Q y (hr y (B9 hx))] at hS
   rw[<- g5] at hs
   obtain⟨z,hz⟩:∃z,z=F6 y:=⟨_,rfl⟩
   rw[<- hz] at hs hS
   obtain⟨o1,n1,v1,m1,l1,a1⟩:=y
   obtain⟨o2,n2,v2,m2,l2,a2⟩:=z
   have hg:=x3 _ _ _ _ _ _ _ hx
   rw[Ex.ds_mk] at hs
   rw[Ex.av_mk,Ex.av_mk] at hS
   clear g5
   repeat' first|refine st ?_|refine⟨λ_=>?_,λ_=>?_⟩|fail
   exact⟨q+1,(B++[W6 o2 n2 v2 m2 (ng l2 (xL a2))],false),rfl,rfl,rfl,by omega,by omega,hs,by simp⟩
  |none=>
   have hge:=C8.1 hx
   rw[A04 hge,<- hXR] at g5
   subst g5
   subst g6
   repeat' first|refine st ?_|refine⟨λ_=>?_,λ_=>?_⟩|fail
   all_goals exact⟨rfl,_,_,_,rfl⟩
def eD(l:List (List D)):D:=B5 l.isEmpty l
theorem A1M(l:List (List D)):B3 (eD l) l:=W3 λe=>u9.1 e
def TD.cpR(x:TD):TD:=⟨⟨x.t.nm,x.t.cs,x.t.ks,x.t.fs.map U0,x.t.xs.map F6⟩,eD (A9 x.t.cs),eD (A0 x.t.ks),eD (F0 x.t.fs),eD (xL (x.t.xs.map F6))⟩
theorem TD.cpR_ok{x:TD}(h:x.ok):x.cpR.ok:=by
 obtain⟨h,hr⟩:=h
 refine⟨⟨h.hn,h.hl,h.hls,h.hk,by show(x.t.fs.map U0).length<=_;rw[C6];exact h.hfl,λf hf=>?_,by show(x.t.xs.map F6).length<=_;rw[C6];exact h.hxs,λe he=>?_,A1M _,A1M _,A1M _,A1M _⟩,λe he=>?_⟩
 ·obtain⟨g,hg,rfl⟩:=D9.1 hf
  exact h.hfc g hg
 ·obtain⟨a,ha,rfl⟩:=D9.1 he
  exact O4 (A6b a) (h.hxb a ha)
 ·obtain⟨a,ha,rfl⟩:=D9.1 he
  exact B13 a (hr a ha)
theorem D5D(x:TD):nf x.cpR.t=nf x.t:=D5E x.t
theorem B17{os:List AO}{nm:List UInt8}{a b f x:Nat}{Cs K F X:List (List D)}{cn kn fn xn:Bool}{cz kz fz xz cf kf ff xf:Nat}
  (h1:os[a]?=some (.arr Cs cz cf cn)) (h2:os[b]?=some (.arr K kz kf kn)) (h3:os[f]?=some (.arr F fz ff fn)) (h4:os[x]?=some (.arr X xz xf xn)) :
  DG os (.agg [.d (.str nm),.arr a Cs.length,.arr b K.length,.arr f F.length,.arr x X.length]) (eT nm (B5 cn Cs) (B5 kn K) (B5 fn F) (B5 xn X)):=by
 refine .inr ⟨_,[.str nm,B5 cn Cs,B5 kn K,B5 fn F,B5 xn X],rfl,rfl,rfl,λj c y hc hy=>?_⟩
 match j,hc,hy with
 |0,hc,hy=>cases hc;cases hy;exact .inl (.inl rfl)
 |1,hc,hy=>cases hc;cases hy;exact .inl (.inr ⟨a,Cs,cz,cf,cn,rfl,h1,rfl⟩)
 |2,hc,hy=>cases hc;cases hy;exact .inl (.inr ⟨b,K,kz,kf,kn,rfl,h2,rfl⟩)
 |3,hc,hy=>cases hc;cases hy;exact .inl (.inr ⟨f,F,fz,ff,fn,rfl,h3,rfl⟩)
 |4,hc,hy=>cases hc;cases hy;exact .inl (.inr ⟨x,X,xz,xf,xn,rfl,h4,rfl⟩)
 |j+5,hc,hy=>simp at hc
theorem A9A(x:TD)(h:x.ok):Pure Tryz.prog A4k [x.av] x.cpR.av:=by
 refine B0.deepP (B2T x h) ?_
 rintro r os ⟨rfl,a,b,c,rfl⟩
 exact .inl (B17 rfl rfl rfl rfl)
end Go.Proofs
end
