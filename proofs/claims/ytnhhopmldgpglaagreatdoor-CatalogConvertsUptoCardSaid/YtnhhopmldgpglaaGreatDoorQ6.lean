/- Texts of this claim, joined. No condition. -/
import Derived.Test.YtnhhopmldgpglaaGreatDoorQ5
set_option linter.unusedSimpArgs false
set_option linter.unusedVariables false
set_option maxRecDepth 10000
set_option maxHeartbeats 4000000
section
set_option maxHeartbeats 8000000
namespace Go.Proofs
open Go.Bi
theorem C3k(nm:List UInt8)(es:List (List D))(hm:∀e∈es,e.length=3)(i:Nat)(hi:i<es.length)(hel:es.length<=1048576)(ks:List Int)(hkb:∀k∈ks,0<=k/\k<=1048576)(hkl:ks.length<=1048576)(kn:Bool)(hkn:kn=true->ks=[])(xs:List Ex)(hxl:xs.length<=1048576)(hxb:∀e∈xs,e.bk<=1048576)(xn:Bool)(hxn:xn=true->xs=[])(c0:List Int)(b0:Bool)(t0:List UInt8)(hc0:c0.length<=1048576)(hcb0:∀k∈c0,0<=k/\k<=1048576)(hn0:b0=true->c0=[])(c1:List Int)(b1:Bool)(t1:List UInt8)(hc1:c1.length<=1048576)(hcb1:∀k∈c1,0<=k/\k<=1048576)(hn1:b1=true->c1=[]) :
  B0 Tryz.prog A0Y [.ptr 0 0,.d (eI i)] [.cells [.d (.str nm),.arr 1 es.length,.arr 2 (A0 ks).length,.rs 3 2,.arr 4 (xL xs).length],.arr es 3 0 false,.arr (A0 ks) 1 0 kn,.rarr [[.arr 5 (A0 c0).length,.d (.str t0)],[.arr 6 (A0 c1).length,.d (.str t1)]] 2 false,.arr (xL xs) 7 0 xn,.arr (A0 c0) 1 0 b0,.arr (A0 c1) 1 0 b1]
   (λr os=>r=.tup []/\os=[.cells [.d (.str nm),.d (.sl (es.eraseIdx i)),.arr 2 (A0 ks).length,.rs 3 2,.arr 4 (xL xs).length],.arr (es.eraseIdx i++[M3]) 3 (es.length-1) false,.arr (A0 (ks.map λc=>A6 c i)) 1 0 kn,.rarr [[.arr 5 (A0 c0).length,.d (.str t0)],[.arr 6 (A0 c1).length,.d (.str t1)]] 2 false,.arr (xL (xs.map (D8 (H5 es.length i)))) 7 0 xn,.arr (A0 (c0.map λc=>A6 c i)) 1 0 b0,.arr (A0 (c1.map λc=>A6 c i)) 1 0 b1]):=by
 have hD:=fun {os:List AO} (ho:os[1]?=some (.arr es 3 0 false))=>A5l es hm i hi ho
 refine A5t.goX A4 rfl ?_
 repeat' first|refine st ?_|refine⟨λ_=>?_,λ_=>?_⟩|fail
 refine A00 4 7 rfl rfl ?_
 repeat' first|refine st ?_|refine⟨λ_=>?_,λ_=>?_⟩|fail
 refine I2 A4 A5D A5y (λ(k:Nat) (A:List (List D))=>[.arr 7 A.length,.d (eI k)]) (λk A=>[.cells [.d (.str nm),.arr 1 es.length,.arr 2 (A0 ks).length,.rs 3 2,.arr 4 (xL xs).length],.arr es 3 0 false,.arr (A0 ks) 1 0 kn,.rarr [[.arr 5 (A0 c0).length,.d (.str t0)],[.arr 6 (A0 c1).length,.d (.str t1)]] 2 false,.arr (xL xs) 7 0 xn,.arr (A0 c0) 1 0 b0,.arr (A0 c1) 1 0 b1,.arr A 7 0 A.isEmpty]) (λk A=>k<=es.length/\A=xL (H5 k i)) (λk A=>es.length-k) 0 [] rfl rfl rfl rfl (λ_ _ _=>⟨rfl,rfl⟩) rfl ⟨by omega,by simp[H5,xL]⟩ ?_
 repeat' first|refine st ?_|refine⟨λ_=>?_,λ_=>?_⟩|fail
 intro k A ⟨h4,h5⟩
 have hAl:A.length=k:=by rw[h5,I7,A1l]
 have hAm:∀e∈A,e.length=7:=by rw[h5];exact O7 _
 by_cases hlt:k<es.length
 ·have hB:=W7 k i (by omega) (by omega)
  have hs:=A6G k i
  rw[<- h5] at hs
  obtain⟨b,hb⟩:∃b,b=A6 k i:=⟨_,rfl⟩
  rw[<- hb] at hB hs
  clear h5
  repeat' first|refine st ?_|refine⟨λ_=>?_,λ_=>?_⟩|fail
  refine⟨k+1,A++[[.int .i64 2,eI b,.int .i64 0,.int .i64 0,.str [],.str [],.nil]],?_,rfl,?_,by omega,by omega,hs⟩
  ·rfl
  ·rw[show(A++[[.int .i64 2,eI b,.int .i64 0,.int .i64 0,.str [],.str [],.nil]]).isEmpty=false by simp]
   first|rfl|skip
 ·have hke:k=es.length:=by omega
  rw[hke] at h5
  have hDc:=hD (os:=[.cells [.d (.str nm),.arr 1 es.length,.arr 2 (A0 ks).length,.rs 3 2,.arr 4 (xL xs).length],.arr es 3 0 false,.arr (A0 ks) 1 0 kn,.rarr [[.arr 5 (A0 c0).length,.d (.str t0)],[.arr 6 (A0 c1).length,.d (.str t1)]] 2 false,.arr (xL xs) 7 0 xn,.arr (A0 c0) 1 0 b0,.arr (A0 c1) 1 0 b1,.arr A 7 0 A.isEmpty]) rfl
  obtain⟨es',hes'⟩:∃e,e=es.eraseIdx i:=⟨_,rfl⟩
  rw[<- hes'] at hDc ⊢
  obtain⟨M0,hM0⟩:∃L,L=H5 es.length i:=⟨_,rfl⟩
  have hMl:M0.length<=1048576:=by rw[hM0,A1l];exact hel
  rw[<- hM0] at h5 ⊢
  obtain⟨N0,hN0⟩:∃K,K=A0 (c0.map λc=>A6 c i):=⟨_,rfl⟩
  obtain⟨N1,hN1⟩:∃K,K=A0 (c1.map λc=>A6 c i):=⟨_,rfl⟩
  rw[<- hN0,<- hN1]
  repeat' first|(with_reducible apply A35)|refine st ?_|((with_reducible first|apply I5|apply I8);(·exact hDc);(try rintro _ _ ⟨rfl,rfl⟩))|((with_reducible apply I9);(·exact hDc))|refine⟨λ_=>?_,λ_=>?_⟩|fail
  refine F2 A4 A5E A5z (λ(j:Nat)=>[.d (eI j)]) (λj=>[.cells [.d (.str nm),.d (.sl es'),.arr 2 (A0 ks).length,.rs 3 2,.arr 4 (xL xs).length],.arr (es'++[M3]) 3 (es.length-1) false,.arr (A0 (D2 ks (λc=>A6 c i) j)) 1 0 kn,.rarr [[.arr 5 (A0 c0).length,.d (.str t0)],[.arr 6 (A0 c1).length,.d (.str t1)]] 2 false,.arr (xL xs) 7 0 xn,.arr (A0 c0) 1 0 b0,.arr (A0 c1) 1 0 b1,.arr A 7 0 A.isEmpty]) (λj=>j<=ks.length) (λj=>ks.length-j) 0 rfl rfl rfl (by rw[s6];rfl) (λ_ _=>⟨rfl,rfl⟩) rfl (by omega) ?_
  repeat' first|refine st ?_|refine⟨λ_=>?_,λ_=>?_⟩|fail
  intro j h6
  have hKl:=s4 ks (λc=>A6 c i) j h6
  cases hy:ks[j]? with
  |some c=>
   obtain⟨hlt2,he2⟩:=A7.1 hy
   have hkf:kn=false:=by
    cases kn with
    |false=>rfl
    |true=>rw[hkn rfl] at hlt2;simp at hlt2
   subst hkf
   have hg:=K5 (s0 (λc=>A6 c i) hy)
   have hset:=s5 (λc=>A6 c i) hy
   obtain⟨cb1,cb2⟩:=hkb c (B9 hy)
   have hB:=W7 c i (by omega) (by omega)
   have hks:=B4 ks
   obtain⟨y,hyy⟩:∃y,y=A6 c i:=⟨_,rfl⟩
   rw[<- hyy] at hB hset
   have hset2:(A0 (D2 ks (λc=>A6 c i) j)).set j [eI y]=A0 (D2 ks (λc=>A6 c i) (j+1)):=by rw[p7,hset]
   have hml:=B4 (D2 ks (λc=>A6 c i) j)
   have hmm2:=C9 (D2 ks (λc=>A6 c i) j)
   obtain⟨X,hX⟩:∃X,X=A0 (D2 ks (λc=>A6 c i) j):=⟨_,rfl⟩
   rw[<- hX] at hg hset2 hml hmm2 ⊢
   repeat' first|refine st ?_|refine⟨λ_=>?_,λ_=>?_⟩|fail
   refine⟨j+1,rfl,rfl,?_,by omega,by omega⟩
   rw[show((j:Int)).toNat=j from G7 j,hset2]
  |none=>
   have hge:=C8.1 hy
   have hjk:j=ks.length:=by omega
   subst hjk
   rw[r9]
   have hks:=B4 ks
   obtain⟨K',hK'⟩:∃K,K=A0 (ks.map λc=>A6 c i):=⟨_,rfl⟩
   rw[<- hK']
   repeat' first|refine st ?_|refine⟨λ_=>?_,λ_=>?_⟩|fail
   refine A26 3 ?_
   refine Q5 A4 ?_
   repeat' first|refine st ?_|refine⟨λ_=>?_,λ_=>?_⟩|fail
   refine F2 A4 A1x A1w (λ(j:Nat)=>[.d (eI j)]) (λj=>[.cells [.d (.str nm),.d (.sl es'),.arr 2 (A0 ks).length,.rs 3 2,.arr 4 (xL xs).length],.arr (es'++[M3]) 3 (es.length-1) false,.arr K' 1 0 kn,.rarr [[.arr 5 (A0 c0).length,.d (.str t0)],[.arr 6 (A0 c1).length,.d (.str t1)]] 2 false,.arr (xL xs) 7 0 xn,.arr (A0 (D2 c0 (λc=>A6 c i) j)) 1 0 b0,.arr (A0 c1) 1 0 b1,.arr A 7 0 A.isEmpty,.cells [.arr 5 (A0 c0).length,.d (.str t0)]]) (λj=>j<=c0.length) (λj=>c0.length-j) 0 rfl rfl rfl (by rw[s6];rfl) (λ_ _=>⟨rfl,rfl⟩) rfl (by omega) ?_
   repeat' first|refine st ?_|refine⟨λ_=>?_,λ_=>?_⟩|fail
   intro j h6
   have hKl:=s4 c0 (λc=>A6 c i) j h6
   cases hy:c0[j]? with
   |some c=>
    obtain⟨hlt2,he2⟩:=A7.1 hy
    have hkf:b0=false:=by
     cases b0 with
     |false=>rfl
     |true=>rw[hn0 rfl] at hlt2;simp at hlt2
    subst hkf
    have hg:=K5 (s0 (λc=>A6 c i) hy)
    have hset:=s5 (λc=>A6 c i) hy
    obtain⟨cb1,cb2⟩:=hcb0 c (B9 hy)
    have hB:=W7 c i (by omega) (by omega)
    have hks:=B4 c0
    obtain⟨y,hyy⟩:∃y,y=A6 c i:=⟨_,rfl⟩
    rw[<- hyy] at hB hset
    have hset2:(A0 (D2 c0 (λc=>A6 c i) j)).set j [eI y]=A0 (D2 c0 (λc=>A6 c i) (j+1)):=by rw[p7,hset]
    have hml:=B4 (D2 c0 (λc=>A6 c i) j)
    have hmm2:=C9 (D2 c0 (λc=>A6 c i) j)
    obtain⟨X,hX⟩:∃X,X=A0 (D2 c0 (λc=>A6 c i) j):=⟨_,rfl⟩
    rw[<- hX] at hg hset2 hml hmm2 ⊢
    repeat' first|refine st ?_|refine⟨λ_=>?_,λ_=>?_⟩|fail
    refine⟨j+1,rfl,rfl,?_,by omega,by omega⟩
    rw[show((j:Int)).toNat=j from G7 j,hset2]
   |none=>
    have hge:=C8.1 hy
    have hjk:j=c0.length:=by omega
    subst hjk
    rw[r9]
    have hks:=B4 c0
    rw[<- hN0]
    repeat' first|refine st ?_|refine⟨λ_=>?_,λ_=>?_⟩|fail
    refine Q5 A4 ?_
    repeat' first|refine st ?_|refine⟨λ_=>?_,λ_=>?_⟩|fail
    refine F2 A4 A1x A1w (λ(j:Nat)=>[.d (eI j)]) (λj=>[.cells [.d (.str nm),.d (.sl es'),.arr 2 (A0 ks).length,.rs 3 2,.arr 4 (xL xs).length],.arr (es'++[M3]) 3 (es.length-1) false,.arr K' 1 0 kn,.rarr [[.arr 5 (A0 c0).length,.d (.str t0)],[.arr 6 (A0 c1).length,.d (.str t1)]] 2 false,.arr (xL xs) 7 0 xn,.arr N0 1 0 b0,.arr (A0 (D2 c1 (λc=>A6 c i) j)) 1 0 b1,.arr A 7 0 A.isEmpty,.cells [.arr 5 (A0 c0).length,.d (.str t0)],.cells [.arr 6 (A0 c1).length,.d (.str t1)]]) (λj=>j<=c1.length) (λj=>c1.length-j) 0 rfl rfl rfl (by rw[s6];rfl) (λ_ _=>⟨rfl,rfl⟩) rfl (by omega) ?_
    repeat' first|refine st ?_|refine⟨λ_=>?_,λ_=>?_⟩|fail
    intro j h6
    have hKl:=s4 c1 (λc=>A6 c i) j h6
    cases hy:c1[j]? with
    |some c=>
     obtain⟨hlt2,he2⟩:=A7.1 hy
     have hkf:b1=false:=by
      cases b1 with
      |false=>rfl
      |true=>rw[hn1 rfl] at hlt2;simp at hlt2
     subst hkf
     have hg:=K5 (s0 (λc=>A6 c i) hy)
     have hset:=s5 (λc=>A6 c i) hy
     obtain⟨cb1,cb2⟩:=hcb1 c (B9 hy)
     have hB:=W7 c i (by omega) (by omega)
     have hks:=B4 c1
     obtain⟨y,hyy⟩:∃y,y=A6 c i:=⟨_,rfl⟩
     rw[<- hyy] at hB hset
     have hset2:(A0 (D2 c1 (λc=>A6 c i) j)).set j [eI y]=A0 (D2 c1 (λc=>A6 c i) (j+1)):=by rw[p7,hset]
     have hml:=B4 (D2 c1 (λc=>A6 c i) j)
     have hmm2:=C9 (D2 c1 (λc=>A6 c i) j)
     obtain⟨X,hX⟩:∃X,X=A0 (D2 c1 (λc=>A6 c i) j):=⟨_,rfl⟩
     rw[<- hX] at hg hset2 hml hmm2 ⊢
     repeat' first|refine st ?_|refine⟨λ_=>?_,λ_=>?_⟩|fail
     refine⟨j+1,rfl,rfl,?_,by omega,by omega⟩
     rw[show((j:Int)).toNat=j from G7 j,hset2]
    |none=>
     have hge:=C8.1 hy
     have hjk:j=c1.length:=by omega
     subst hjk
     rw[r9]
     have hks:=B4 c1
     rw[<- hN1]
     repeat' first|refine st ?_|refine⟨λ_=>?_,λ_=>?_⟩|fail
     refine Q5 A4 ?_
     repeat' first|refine st ?_|refine⟨λ_=>?_,λ_=>?_⟩|fail
     have hAe:A.isEmpty=false:=by cases A with
      |nil=>simp at hAl;omega
      |cons a l=>rfl
     rw[hAe]
     have hXl:=I7 xs
     refine A2F 4 (id:=7) (len:=A.length) (sz:=7) (frz:=0) (nl:=false) (es:=A) rfl rfl rfl ?_
     rw[if_neg (by decide:¬(false=true))]
     repeat' first|refine st ?_|refine⟨λ_=>?_,λ_=>?_⟩|fail
     refine F2 A4 A5F A5A (λ(q:Nat)=>[.d (eI q)]) (λq=>[.cells [.d (.str nm),.d (.sl es'),.arr 2 (A0 ks).length,.rs 3 2,.arr 4 (xL xs).length],.arr (es'++[M3]) 3 (es.length-1) false,.arr K' 1 0 kn,.rarr [[.arr 5 (A0 c0).length,.d (.str t0)],[.arr 6 (A0 c1).length,.d (.str t1)]] 2 false,.arr (xL (L7 xs (D8 M0) q)) 7 0 xn,.arr N0 1 0 b0,.arr N1 1 0 b1,.arr A 7 A.length false,.cells [.arr 5 (A0 c0).length,.d (.str t0)],.cells [.arr 6 (A0 c1).length,.d (.str t1)]]) (λq=>q<=xs.length) (λq=>xs.length-q) 0 rfl rfl rfl (by rw[A6E];rfl) (λ_ _=>⟨rfl,rfl⟩) rfl (by omega) ?_
     repeat' first|refine st ?_|refine⟨λ_=>?_,λ_=>?_⟩|fail
     intro q h7
     have hMb:∀a∈M0,a.bk<=1048576:=by
      intro a ha
      rw[hM0] at ha
      obtain⟨b,_,rfl⟩:=D9.1 ha
      unfold mvE Ex.bk
      rw[Ex.ds_mk]
      exact P5 rfl
     have hXql:=A6C xs (D8 M0) q h7
     cases hx:xs[q]? with
     |some x=>
      obtain⟨hlt3,he3⟩:=A7.1 hx
      have hxf:xn=false:=by
       cases xn with
       |false=>rfl
       |true=>rw[hxn rfl] at hlt3;simp at hlt3
      subst hxf
      have hg:=A6B (D8 M0) hx
      have hset:=A6D (D8 M0) hx
      have hS:=A5g M0 hMl hMb (.sl A) (by rw[h5];exact J7) x (hxb x (B9 hx))
      have hq1:=I7 (L7 xs (D8 M0) q)
      have hq2:=O7 (L7 xs (D8 M0) q)
      obtain⟨z,hz⟩:∃z,z=D8 M0 x:=⟨_,rfl⟩
      rw[<- hz] at hS hset
      have hset2:(xL (L7 xs (D8 M0) q)).set q z.ds=xL (L7 xs (D8 M0) (q+1)):=by rw[<- hset];unfold xL;rw[W8]
      obtain⟨o1,n1,v1,m1,l1,a1⟩:=x
      obtain⟨o2,n2,v2,m2,l2,a2⟩:=z
      have hg:=o3 _ _ _ _ _ _ _ hg
      rw[Ex.av_mk,Ex.av_mk] at hS
      rw[Ex.ds_mk] at hset2
      obtain⟨X,hX⟩:∃X,X=xL (L7 xs (D8 M0) q):=⟨_,rfl⟩
      rw[<- hX] at hg hset2 hq1 hq2 ⊢
      repeat' first|refine st ?_|refine⟨λ_=>?_,λ_=>?_⟩|fail
      refine⟨q+1,rfl,rfl,?_,by omega,by omega⟩
      rw[show((q:Int)).toNat=q from G7 q,hset2]
     |none=>
      have hge:=C8.1 hx
      have hqk:q=xs.length:=by omega
      subst hqk
      rw[A6A]
      repeat' first|refine st ?_|refine⟨λ_=>?_,λ_=>?_⟩|fail
      exact⟨rfl,rfl⟩
theorem C3l(T0 T1 T2 T3 T4 T7:AO)(nm:List UInt8)(es:List (List D))(hm:∀e∈es,e.length=3)(i:Nat)(hi:i<es.length)(hel:es.length<=1048576)(ks:List Int)(hkb:∀k∈ks,0<=k/\k<=1048576)(hkl:ks.length<=1048576)(kn:Bool)(hkn:kn=true->ks=[])(xs:List Ex)(hxl:xs.length<=1048576)(hxb:∀e∈xs,e.bk<=1048576)(xn:Bool)(hxn:xn=true->xs=[])(c0:List Int)(b0:Bool)(t0:List UInt8)(hc0:c0.length<=1048576)(hcb0:∀k∈c0,0<=k/\k<=1048576)(hn0:b0=true->c0=[])(c1:List Int)(b1:Bool)(t1:List UInt8)(hc1:c1.length<=1048576)(hcb1:∀k∈c1,0<=k/\k<=1048576)(hn1:b1=true->c1=[]) :
  B0 Tryz.prog A0Y [.ptr 12 0,.d (eI i)] [T0,T1,T2,T3,T4,.arr es 3 0 false,.arr (A0 ks) 1 0 kn,T7,.rarr [[.arr 10 (A0 c0).length,.d (.str t0)],[.arr 11 (A0 c1).length,.d (.str t1)]] 2 false,.arr (xL xs) 7 0 xn,.arr (A0 c0) 1 0 b0,.arr (A0 c1) 1 0 b1,.cells [.d (.str nm),.arr 5 es.length,.arr 6 (A0 ks).length,.rs 8 2,.arr 9 (xL xs).length]]
   (λr os=>r=.tup []/\os=[T0,T1,T2,T3,T4,.arr (es.eraseIdx i++[M3]) 3 (es.length-1) false,.arr (A0 (ks.map λc=>A6 c i)) 1 0 kn,T7,.rarr [[.arr 10 (A0 c0).length,.d (.str t0)],[.arr 11 (A0 c1).length,.d (.str t1)]] 2 false,.arr (xL (xs.map (D8 (H5 es.length i)))) 7 0 xn,.arr (A0 (c0.map λc=>A6 c i)) 1 0 b0,.arr (A0 (c1.map λc=>A6 c i)) 1 0 b1,.cells [.d (.str nm),.d (.sl (es.eraseIdx i)),.arr 6 (A0 ks).length,.rs 8 2,.arr 9 (xL xs).length]]):=by
 have:=B0.frame (K:=λr os=>r=.tup []/\os=[T0,T1,T2,T3,T4,.arr (es.eraseIdx i++[M3]) 3 (es.length-1) false,.arr (A0 (ks.map λc=>A6 c i)) 1 0 kn,T7,.rarr [[.arr 10 (A0 c0).length,.d (.str t0)],[.arr 11 (A0 c1).length,.d (.str t1)]] 2 false,.arr (xL (xs.map (D8 (H5 es.length i)))) 7 0 xn,.arr (A0 (c0.map λc=>A6 c i)) 1 0 b0,.arr (A0 (c1.map λc=>A6 c i)) 1 0 b1,.cells [.d (.str nm),.d (.sl (es.eraseIdx i)),.arr 6 (A0 ks).length,.rs 8 2,.arr 9 (xL xs).length]]) (C3k nm es hm i hi hel ks hkb hkl kn hkn xs hxl hxb xn hxn c0 b0 t0 hc0 hcb0 hn0 c1 b1 t1 hc1 hcb1 hn1) [12,5,6,8,9,10,11]
  [T0,T1,T2,T3,T4,.arr es 3 0 false,.arr (A0 ks) 1 0 kn,T7,.rarr [[.arr 10 (A0 c0).length,.d (.str t0)],[.arr 11 (A0 c1).length,.d (.str t1)]] 2 false,.arr (xL xs) 7 0 xn,.arr (A0 c0) 1 0 b0,.arr (A0 c1) 1 0 b1,.cells [.d (.str nm),.arr 5 es.length,.arr 6 (A0 ks).length,.rs 8 2,.arr 9 (xL xs).length]] rfl (by decide) (λi o h=>by
   match i,h with
   |0,h=>cases h;rfl
   |1,h=>cases h;rfl
   |2,h=>cases h;rfl
   |3,h=>cases h;rfl
   |4,h=>cases h;rfl
   |5,h=>cases h;rfl
   |6,h=>cases h;rfl
   |i+7,h=>simp at h) (λa ha=>by
    simp only[I6,o4,or_false] at ha
    rcases ha with rfl|rfl<;>simp[AV.bnd2,AV.bnd1]) (λo ho=>by
    simp only[I6,o4,or_false] at ho
    rcases ho with rfl|rfl|rfl|rfl|rfl|rfl|rfl
    ·exact M6 rfl
    ·exact M6 rfl
    ·exact M6 rfl
    ·exact M6 rfl
    ·exact M6 rfl
    ·exact M6 rfl
    ·exact M6 rfl
    ) (by
   rintro r bs' ⟨rfl,rfl⟩
   exact⟨rfl,rfl⟩)
 exact this
end Go.Proofs
end
section
set_option maxHeartbeats 8000000
namespace Go.Proofs
open Go.Bi
theorem C2S(t:Tb)(dc dk df dx:D)(h:N6 t dc dk df dx)(c:Ch)(hc:H6 c)(hq:C7 t c=0)(g0 g1:Fo)(hfs:t.fs=[g0,g1])(hk:c.k=1) :
  Pure Tryz.prog Q9 [eT t.nm dc dk df dx,c.av] (.tup [eT t.nm (.sl (A9 (t.cs++[c.co]))) (B5 (A5 dk) (A0 t.ks)) (dF t.fs) (B5 (xL (t.xs.map (B7 0))).isEmpty (xL (t.xs.map (B7 0)))),.d (eI 0)]):=by
 have hC:=U4 t dc dk df dx h c hc
 rw[hq] at hC
 have hF:=S7 t.nm t.cs h.hl dc dk df dx h.dc c.nm
 have hl:=h.hl
 have hdf:=h.df
 have hfc:=h.hfc
 rw[hfs] at hdf hfc
 have hdf2:df=.sl (R6 [⟨g0.d,A0 g0.cs,A5 g0.d,g0.tb⟩,⟨g1.d,A0 g1.cs,A5 g1.d,g1.tb⟩]):=by
  rcases hdf with ⟨_,h2⟩|h2
  ·cases h2
  ·exact h2
 have hf0:(Fi.mk g0.d (A0 g0.cs) (A5 g0.d) g0.tb).ok:=G4 _ (by rw[B4];have:=(hfc g0 (by simp)).1;omega) (C9 _) g0.d g0.sld
 have hf1:(Fi.mk g1.d (A0 g1.cs) (A5 g1.d) g1.tb).ok:=G4 _ (by rw[B4];have:=(hfc g1 (by simp)).1;omega) (C9 _) g1.d g1.sld
 have hK:=A5c t.nm dc dk df dx (A9 t.cs) (A0 t.ks) (A5 dc) (A5 dk) (V4 _ (by rw[F3];omega) (H8 _) dc h.dc) (G4 _ (by rw[B4];have:=h.hk;omega) (C9 _) dk h.dk) _ _ hf0 hf1 hdf2 t.xs h.hxb h.hxs h.dx
 have hcl:=F3 t.cs
 have q0:g0.d=B5 (A5 g0.d) (A0 g0.cs):=(O6 g0.sld).symm
 have q1:g1.d=B5 (A5 g1.d) (A0 g1.cs):=(O6 g1.sld).symm
 have e1:A9 (t.cs++[c.co])=A9 t.cs++[c.co.ds]:=by simp[A9]
 rw[e1]
 obtain⟨k,nm,to,⟨cn,ck,cl⟩,⟨vk,vn,vs⟩⟩:=c
 dsimp only at hk
 subst hk
 obtain⟨f,hf⟩:∃f,f=D4 nm t.cs:=⟨_,rfl⟩
 have hF:Bi.Pure Tryz.prog U7 [eT t.nm dc dk df dx,.d (.str nm)] (.d (eI f)):=by rw[hf];exact hF
 rw[show dF t.fs=B5 false (G5 [g0,g1]) by rw[hfs];rfl]
 generalize A9 t.cs=Cs at hK hcl q0 q1 ⊢
 generalize A0 t.ks=Ks at hK hcl q0 q1 ⊢
 generalize xL (t.xs.map (B7 0))=Xs at hK hcl q0 q1 ⊢
 generalize A5 dk=b2 at hK hcl q0 q1 ⊢
 generalize A5 dc=b1 at hK hcl q0 q1 ⊢
 generalize A0 g0.cs=G0 at hK hcl q0 q1 ⊢
 generalize A5 g0.d=n0 at hK hcl q0 q1 ⊢
 generalize A0 g1.cs=G1 at hK hcl q0 q1 ⊢
 generalize A5 g1.d=n1 at hK hcl q0 q1 ⊢
 obtain⟨u0,hu0⟩:∃x,x=g0.tb:=⟨_,rfl⟩
 rw[<- hu0] at hK
 obtain⟨u1,hu1⟩:∃x,x=g1.tb:=⟨_,rfl⟩
 rw[<- hu1] at hK
 refine B0.deepP (Q:=λr os=>r=.tup [.agg [.d (.str t.nm),.arr 5 (Cs++[[.str cn,eI ck,.bool cl]]).length,.arr 6 Ks.length,.rs 8 2,.arr 9 Xs.length],.d (eI 0)]/\os[5]?=some (.arr (Cs++[[.str cn,eI ck,.bool cl]]) 3 0 false)/\os[6]?=some (.arr Ks 1 0 b2)/\os[8]?=some (.rarr [[.arr 10 G0.length,.d (.str u0)],[.arr 11 G1.length,.d (.str u1)]] 2 false)/\os[9]?=some (.arr Xs 7 0 Xs.isEmpty)/\os[10]?=some (.arr G0 1 0 n0)/\os[11]?=some (.arr G1 1 0 n1)) ?_ ?_
 ·refine V5.goO2 A4 rfl ?_
  repeat' first|refine st ?_|((with_reducible first|apply I5|apply I8);(·exact hK);(try rintro _ _ ⟨rfl,rfl⟩))|((with_reducible apply I9);(·exact hK))|refine⟨λ_=>?_,λ_=>?_⟩|fail
  exact⟨rfl,rfl,rfl,rfl,rfl,rfl,rfl⟩
 ·rintro r os ⟨rfl,hx0,hx1,hx2,hx3,hx4,hx5⟩
  refine V6 (rows:=[[.arr 10 G0.length,.d (.str u0)],[.arr 11 G1.length,.d (.str u1)]]) (fs:=[g0,g1]) (.inl (.inr ⟨5,_,3,0,false,rfl,hx0,rfl⟩)) hx1 hx2 hx3 rfl (λi e g he hg=>?_)
  match i,he,hg with
  |0,he,hg=>cases he;cases hg;exact⟨10,_,n0,by rw[hu0],hx4,q0⟩
  |1,he,hg=>cases he;cases hg;exact⟨11,_,n1,by rw[hu1],hx5,q1⟩
  |i+2,he,hg=>simp at he
theorem C2U(t:Tb)(dc dk df dx:D)(h:N6 t dc dk df dx)(c:Ch)(hc:H6 c)(hq:C7 t c=0)(g0 g1:Fo)(hfs:t.fs=[g0,g1])(hk:c.k=3)(i:Nat)(hi:D4 c.nm t.cs=i)(co:Co)(hco:t.cs[i]?=some co)(hdc:dc=.sl (A9 t.cs)) :
  Pure Tryz.prog Q9 [eT t.nm dc dk df dx,c.av] (.tup [eT t.nm (.sl (A9 (t.cs.set i ⟨c.to,co.k,co.nl⟩))) (B5 (A5 dk) (A0 t.ks)) (dF t.fs) (B5 (xL (t.xs.map (B7 0))).isEmpty (xL (t.xs.map (B7 0)))),.d (eI 0)]):=by
 have hC:=U4 t dc dk df dx h c hc
 rw[hq] at hC
 have hF:=S7 t.nm t.cs h.hl dc dk df dx h.dc c.nm
 have hl:=h.hl
 have hdf:=h.df
 have hfc:=h.hfc
 rw[hfs] at hdf hfc
 rw[hi] at hF
 have hdf2:df=.sl (R6 [⟨g0.d,A0 g0.cs,A5 g0.d,g0.tb⟩,⟨g1.d,A0 g1.cs,A5 g1.d,g1.tb⟩]):=by
  rcases hdf with ⟨_,h2⟩|h2
  ·cases h2
  ·exact h2
 have hf0:(Fi.mk g0.d (A0 g0.cs) (A5 g0.d) g0.tb).ok:=G4 _ (by rw[B4];have:=(hfc g0 (by simp)).1;omega) (C9 _) g0.d g0.sld
 have hf1:(Fi.mk g1.d (A0 g1.cs) (A5 g1.d) g1.tb).ok:=G4 _ (by rw[B4];have:=(hfc g1 (by simp)).1;omega) (C9 _) g1.d g1.sld
 have hK:=A5c t.nm dc dk df dx (A9 t.cs) (A0 t.ks) (A5 dc) (A5 dk) (V4 _ (by rw[F3];omega) (H8 _) dc h.dc) (G4 _ (by rw[B4];have:=h.hk;omega) (C9 _) dk h.dk) _ _ hf0 hf1 hdf2 t.xs h.hxb h.hxs h.dx
 have hcl:=F3 t.cs
 rw[show A5 dc=false by rw[hdc];rfl] at hK
 have q0:g0.d=B5 (A5 g0.d) (A0 g0.cs):=(O6 g0.sld).symm
 have q1:g1.d=B5 (A5 g1.d) (A0 g1.cs):=(O6 g1.sld).symm
 have hg:(A9 t.cs)[((i:Nat):Int).toNat]?=some [.str co.nm,eI co.k,.bool co.nl]:=L4 hco
 have hg2:(A9 t.cs)[i]?=some [.str co.nm,eI co.k,.bool co.nl]:=L4 hco
 have hmm:=H8 t.cs
 have hilt:i<(A9 t.cs).length:=by rw[hcl];exact(A7.1 hco).1
 have e1:A9 (t.cs.set i ⟨c.to,co.k,co.nl⟩)=(A9 t.cs).set i [.str c.to,eI co.k,.bool co.nl]:=by unfold A9;rw[W8]
 rw[e1]
 obtain⟨k,nm,to,⟨cn,ck,cl⟩,⟨vk,vn,vs⟩⟩:=c
 dsimp only at hk
 subst hk
 have hF:Bi.Pure Tryz.prog U7 [eT t.nm dc dk df dx,.d (.str nm)] (.d (eI i)):=hF
 rw[show dF t.fs=B5 false (G5 [g0,g1]) by rw[hfs];rfl]
 generalize A9 t.cs=Cs at hK hcl hg hg2 hmm hilt q0 q1 ⊢
 generalize A0 t.ks=Ks at hK hcl hg hg2 hmm hilt q0 q1 ⊢
 generalize xL (t.xs.map (B7 0))=Xs at hK hcl hg hg2 hmm hilt q0 q1 ⊢
 generalize A5 dk=b2 at hK hcl hg hg2 hmm hilt q0 q1 ⊢
 generalize A0 g0.cs=G0 at hK hcl hg hg2 hmm hilt q0 q1 ⊢
 generalize A5 g0.d=n0 at hK hcl hg hg2 hmm hilt q0 q1 ⊢
 generalize A0 g1.cs=G1 at hK hcl hg hg2 hmm hilt q0 q1 ⊢
 generalize A5 g1.d=n1 at hK hcl hg hg2 hmm hilt q0 q1 ⊢
 obtain⟨u0,hu0⟩:∃x,x=g0.tb:=⟨_,rfl⟩
 rw[<- hu0] at hK
 obtain⟨u1,hu1⟩:∃x,x=g1.tb:=⟨_,rfl⟩
 rw[<- hu1] at hK
 refine B0.deepP (Q:=λr os=>r=.tup [.agg [.d (.str t.nm),.arr 5 (Cs.set i [.str to,eI co.k,.bool co.nl]).length,.arr 6 Ks.length,.rs 8 2,.arr 9 Xs.length],.d (eI 0)]/\os[5]?=some (.arr (Cs.set i [.str to,eI co.k,.bool co.nl]) 3 0 false)/\os[6]?=some (.arr Ks 1 0 b2)/\os[8]?=some (.rarr [[.arr 10 G0.length,.d (.str u0)],[.arr 11 G1.length,.d (.str u1)]] 2 false)/\os[9]?=some (.arr Xs 7 0 Xs.isEmpty)/\os[10]?=some (.arr G0 1 0 n0)/\os[11]?=some (.arr G1 1 0 n1)) ?_ ?_
 ·refine V5.goO2 A4 rfl ?_
  rw[U6]
  repeat' first|refine st ?_|((with_reducible first|apply I5|apply I8);(·exact hK);(try rintro _ _ ⟨rfl,rfl⟩))|((with_reducible apply I9);(·exact hK))|refine⟨λ_=>?_,λ_=>?_⟩|fail
  exact⟨rfl,rfl,rfl,rfl,rfl,rfl,rfl⟩
 ·rintro r os ⟨rfl,hx0,hx1,hx2,hx3,hx4,hx5⟩
  refine V6 (rows:=[[.arr 10 G0.length,.d (.str u0)],[.arr 11 G1.length,.d (.str u1)]]) (fs:=[g0,g1]) (.inl (.inr ⟨5,_,3,0,false,rfl,hx0,rfl⟩)) hx1 hx2 hx3 rfl (λi e g he hg=>?_)
  match i,he,hg with
  |0,he,hg=>cases he;cases hg;exact⟨10,_,n0,by rw[hu0],hx4,q0⟩
  |1,he,hg=>cases he;cases hg;exact⟨11,_,n1,by rw[hu1],hx5,q1⟩
  |i+2,he,hg=>simp at he
theorem C2V(t:Tb)(dc dk df dx:D)(h:N6 t dc dk df dx)(c:Ch)(hc:H6 c)(hq:C7 t c=0)(g0 g1:Fo)(hfs:t.fs=[g0,g1])(hk:c.k=4)(i:Nat)(hi:D4 c.nm t.cs=i)(co:Co)(hco:t.cs[i]?=some co)(hdc:dc=.sl (A9 t.cs)) :
  Pure Tryz.prog Q9 [eT t.nm dc dk df dx,c.av] (.tup [eT t.nm (.sl (A9 (t.cs.set i ⟨co.nm,2,co.nl⟩))) (B5 (A5 dk) (A0 t.ks)) (dF t.fs) (B5 (xL (t.xs.map (B7 0))).isEmpty (xL (t.xs.map (B7 0)))),.d (eI 0)]):=by
 have hC:=U4 t dc dk df dx h c hc
 rw[hq] at hC
 have hF:=S7 t.nm t.cs h.hl dc dk df dx h.dc c.nm
 have hl:=h.hl
 have hdf:=h.df
 have hfc:=h.hfc
 rw[hfs] at hdf hfc
 rw[hi] at hF
 have hdf2:df=.sl (R6 [⟨g0.d,A0 g0.cs,A5 g0.d,g0.tb⟩,⟨g1.d,A0 g1.cs,A5 g1.d,g1.tb⟩]):=by
  rcases hdf with ⟨_,h2⟩|h2
  ·cases h2
  ·exact h2
 have hf0:(Fi.mk g0.d (A0 g0.cs) (A5 g0.d) g0.tb).ok:=G4 _ (by rw[B4];have:=(hfc g0 (by simp)).1;omega) (C9 _) g0.d g0.sld
 have hf1:(Fi.mk g1.d (A0 g1.cs) (A5 g1.d) g1.tb).ok:=G4 _ (by rw[B4];have:=(hfc g1 (by simp)).1;omega) (C9 _) g1.d g1.sld
 have hK:=A5c t.nm dc dk df dx (A9 t.cs) (A0 t.ks) (A5 dc) (A5 dk) (V4 _ (by rw[F3];omega) (H8 _) dc h.dc) (G4 _ (by rw[B4];have:=h.hk;omega) (C9 _) dk h.dk) _ _ hf0 hf1 hdf2 t.xs h.hxb h.hxs h.dx
 have hcl:=F3 t.cs
 rw[show A5 dc=false by rw[hdc];rfl] at hK
 have q0:g0.d=B5 (A5 g0.d) (A0 g0.cs):=(O6 g0.sld).symm
 have q1:g1.d=B5 (A5 g1.d) (A0 g1.cs):=(O6 g1.sld).symm
 have hg:(A9 t.cs)[((i:Nat):Int).toNat]?=some [.str co.nm,eI co.k,.bool co.nl]:=L4 hco
 have hg2:(A9 t.cs)[i]?=some [.str co.nm,eI co.k,.bool co.nl]:=L4 hco
 have hmm:=H8 t.cs
 have hilt:i<(A9 t.cs).length:=by rw[hcl];exact(A7.1 hco).1
 have e1:A9 (t.cs.set i ⟨co.nm,2,co.nl⟩)=(A9 t.cs).set i [.str co.nm,eI 2,.bool co.nl]:=by unfold A9;rw[W8]
 rw[e1]
 obtain⟨k,nm,to,⟨cn,ck,cl⟩,⟨vk,vn,vs⟩⟩:=c
 dsimp only at hk
 subst hk
 have hF:Bi.Pure Tryz.prog U7 [eT t.nm dc dk df dx,.d (.str nm)] (.d (eI i)):=hF
 rw[show dF t.fs=B5 false (G5 [g0,g1]) by rw[hfs];rfl]
 generalize A9 t.cs=Cs at hK hcl hg hg2 hmm hilt q0 q1 ⊢
 generalize A0 t.ks=Ks at hK hcl hg hg2 hmm hilt q0 q1 ⊢
 generalize xL (t.xs.map (B7 0))=Xs at hK hcl hg hg2 hmm hilt q0 q1 ⊢
 generalize A5 dk=b2 at hK hcl hg hg2 hmm hilt q0 q1 ⊢
 generalize A0 g0.cs=G0 at hK hcl hg hg2 hmm hilt q0 q1 ⊢
 generalize A5 g0.d=n0 at hK hcl hg hg2 hmm hilt q0 q1 ⊢
 generalize A0 g1.cs=G1 at hK hcl hg hg2 hmm hilt q0 q1 ⊢
 generalize A5 g1.d=n1 at hK hcl hg hg2 hmm hilt q0 q1 ⊢
 obtain⟨u0,hu0⟩:∃x,x=g0.tb:=⟨_,rfl⟩
 rw[<- hu0] at hK
 obtain⟨u1,hu1⟩:∃x,x=g1.tb:=⟨_,rfl⟩
 rw[<- hu1] at hK
 refine B0.deepP (Q:=λr os=>r=.tup [.agg [.d (.str t.nm),.arr 5 (Cs.set i [.str co.nm,eI 2,.bool co.nl]).length,.arr 6 Ks.length,.rs 8 2,.arr 9 Xs.length],.d (eI 0)]/\os[5]?=some (.arr (Cs.set i [.str co.nm,eI 2,.bool co.nl]) 3 0 false)/\os[6]?=some (.arr Ks 1 0 b2)/\os[8]?=some (.rarr [[.arr 10 G0.length,.d (.str u0)],[.arr 11 G1.length,.d (.str u1)]] 2 false)/\os[9]?=some (.arr Xs 7 0 Xs.isEmpty)/\os[10]?=some (.arr G0 1 0 n0)/\os[11]?=some (.arr G1 1 0 n1)) ?_ ?_
 ·refine V5.goO2 A4 rfl ?_
  rw[U6]
  repeat' first|refine st ?_|((with_reducible first|apply I5|apply I8);(·exact hK);(try rintro _ _ ⟨rfl,rfl⟩))|((with_reducible apply I9);(·exact hK))|refine⟨λ_=>?_,λ_=>?_⟩|fail
  exact⟨rfl,rfl,rfl,rfl,rfl,rfl,rfl⟩
 ·rintro r os ⟨rfl,hx0,hx1,hx2,hx3,hx4,hx5⟩
  refine V6 (rows:=[[.arr 10 G0.length,.d (.str u0)],[.arr 11 G1.length,.d (.str u1)]]) (fs:=[g0,g1]) (.inl (.inr ⟨5,_,3,0,false,rfl,hx0,rfl⟩)) hx1 hx2 hx3 rfl (λi e g he hg=>?_)
  match i,he,hg with
  |0,he,hg=>cases he;cases hg;exact⟨10,_,n0,by rw[hu0],hx4,q0⟩
  |1,he,hg=>cases he;cases hg;exact⟨11,_,n1,by rw[hu1],hx5,q1⟩
  |i+2,he,hg=>simp at he
theorem C2T(t:Tb)(dc dk df dx:D)(h:N6 t dc dk df dx)(c:Ch)(hc:H6 c)(hq:C7 t c=0)(g0 g1:Fo)(hfs:t.fs=[g0,g1])(hk:c.k=2)(i:Nat)(hi:D4 c.nm t.cs=i)(hil:i<t.cs.length)(hdc:dc=.sl (A9 t.cs))(hkb:∀k∈t.ks,0<=k/\k<=1048576)(hfb:∀g∈t.fs,∀k∈g.cs,0<=k/\k<=1048576)(hxb:∀e∈t.xs.map (B7 0),e.bk<=1048576) :
  Pure Tryz.prog Q9 [eT t.nm dc dk df dx,c.av] (.tup [eT t.nm (.sl (A9 (t.cs.eraseIdx i))) (B5 (A5 dk) (A0 (t.ks.map λc=>A6 c i))) (dF (t.fs.map (I1 i))) (B5 (xL (t.xs.map (B7 0))).isEmpty (xL ((t.xs.map (B7 0)).map (D8 (H5 t.cs.length i))))),.d (eI 0)]):=by
 have hC:=U4 t dc dk df dx h c hc
 rw[hq] at hC
 have hF:=S7 t.nm t.cs h.hl dc dk df dx h.dc c.nm
 have hl:=h.hl
 have hdf:=h.df
 have hfc:=h.hfc
 rw[hfs] at hdf hfc
 rw[hi] at hF
 have hdf2:df=.sl (R6 [⟨g0.d,A0 g0.cs,A5 g0.d,g0.tb⟩,⟨g1.d,A0 g1.cs,A5 g1.d,g1.tb⟩]):=by
  rcases hdf with ⟨_,h2⟩|h2
  ·cases h2
  ·exact h2
 have hf0:(Fi.mk g0.d (A0 g0.cs) (A5 g0.d) g0.tb).ok:=G4 _ (by rw[B4];have:=(hfc g0 (by simp)).1;omega) (C9 _) g0.d g0.sld
 have hf1:(Fi.mk g1.d (A0 g1.cs) (A5 g1.d) g1.tb).ok:=G4 _ (by rw[B4];have:=(hfc g1 (by simp)).1;omega) (C9 _) g1.d g1.sld
 have hK:=A5c t.nm dc dk df dx (A9 t.cs) (A0 t.ks) (A5 dc) (A5 dk) (V4 _ (by rw[F3];omega) (H8 _) dc h.dc) (G4 _ (by rw[B4];have:=h.hk;omega) (C9 _) dk h.dk) _ _ hf0 hf1 hdf2 t.xs h.hxb h.hxs h.dx
 have hcl:=F3 t.cs
 rw[show A5 dc=false by rw[hdc];rfl] at hK
 have hkN:A5 dk=true->t.ks=[]:=λhh=>by
  have:=m8 h.dk hh
  cases hks:t.ks with
  |nil=>rfl
  |cons a l=>rw[hks] at this;cases this
 have hxN:(xL (t.xs.map (B7 0))).isEmpty=true->t.xs.map (B7 0)=[]:=by
  intro hh
  cases hx:t.xs.map (B7 0) with
  |nil=>rfl
  |cons a l=>rw[hx] at hh;cases hh
 have hN0:A5 g0.d=true->g0.cs=[]:=λhh=>by
  have:=m8 g0.sld hh
  cases hks:g0.cs with
  |nil=>rfl
  |cons a l=>rw[hks] at this;cases this
 have hB0:=hfb g0 (by rw[hfs];simp)
 have hN1:A5 g1.d=true->g1.cs=[]:=λhh=>by
  have:=m8 g1.sld hh
  cases hks:g1.cs with
  |nil=>rfl
  |cons a l=>rw[hks] at this;cases this
 have hB1:=hfb g1 (by rw[hfs];simp)
 have hD:=λT0 T1 T2 T3 T4 T7=>C3l T0 T1 T2 T3 T4 T7 t.nm (A9 t.cs) (H8 _) i (by rw[hcl];exact hil) (by rw[hcl];exact hl) t.ks hkb h.hk (A5 dk) hkN (t.xs.map (B7 0)) (by rw[C6];exact h.hxs) hxb _ hxN g0.cs (A5 g0.d) g0.tb (hfc g0 (by simp)).1 hB0 hN0 g1.cs (A5 g1.d) g1.tb (hfc g1 (by simp)).1 hB1 hN1
 rw[hcl] at hD
 have hkl2:(A0 (t.ks.map λc=>A6 c i)).length=(A0 t.ks).length:=by rw[B4,B4,C6]
 have hxl2:(xL ((t.xs.map (B7 0)).map (D8 (H5 t.cs.length i)))).length=(xL (t.xs.map (B7 0))).length:=by rw[I7,I7,C6]
 have hkl20:(A0 (g0.cs.map λc=>A6 c i)).length=(A0 g0.cs).length:=by rw[B4,B4,C6]
 have hkl21:(A0 (g1.cs.map λc=>A6 c i)).length=(A0 g1.cs).length:=by rw[B4,B4,C6]
 have q0:(I1 i g0).d=B5 (A5 g0.d) (A0 (g0.cs.map λc=>A6 c i)):=A1D i g0
 have q1:(I1 i g1).d=B5 (A5 g1.d) (A0 (g1.cs.map λc=>A6 c i)):=A1D i g1
 have e1:A9 (t.cs.eraseIdx i)=(A9 t.cs).eraseIdx i:=A4B _ _
 rw[e1]
 obtain⟨k,nm,to,⟨cn,ck,cl⟩,⟨vk,vn,vs⟩⟩:=c
 dsimp only at hk
 subst hk
 have hF:Bi.Pure Tryz.prog U7 [eT t.nm dc dk df dx,.d (.str nm)] (.d (eI i)):=hF
 rw[show dF (t.fs.map (I1 i))=B5 false (G5 [I1 i g0,I1 i g1]) by rw[hfs];rfl]
 rw[hcl] at hK
 generalize A0 (t.ks.map λc=>A6 c i)=K2 at hK hcl hkl2 hxl2 hkl20 hkl21 q0 q1 hD ⊢
 generalize xL ((t.xs.map (B7 0)).map (D8 (H5 t.cs.length i)))=X2 at hK hcl hkl2 hxl2 hkl20 hkl21 q0 q1 hD ⊢
 generalize (A9 t.cs).eraseIdx i=E2 at hK hcl hkl2 hxl2 hkl20 hkl21 q0 q1 hD ⊢
 generalize A0 (g0.cs.map λc=>A6 c i)=H0 at hK hcl hkl2 hxl2 hkl20 hkl21 q0 q1 hD ⊢
 generalize A0 (g1.cs.map λc=>A6 c i)=H1 at hK hcl hkl2 hxl2 hkl20 hkl21 q0 q1 hD ⊢
 generalize A9 t.cs=Cs at hK hcl hkl2 hxl2 hkl20 hkl21 q0 q1 hD ⊢
 generalize A0 t.ks=Ks at hK hcl hkl2 hxl2 hkl20 hkl21 q0 q1 hD ⊢
 generalize xL (t.xs.map (B7 0))=Xs at hK hcl hkl2 hxl2 hkl20 hkl21 q0 q1 hD ⊢
 generalize A5 dk=b2 at hK hcl hkl2 hxl2 hkl20 hkl21 q0 q1 hD ⊢
 generalize A0 g0.cs=G0 at hK hcl hkl2 hxl2 hkl20 hkl21 q0 q1 hD ⊢
 generalize A5 g0.d=n0 at hK hcl hkl2 hxl2 hkl20 hkl21 q0 q1 hD ⊢
 generalize A0 g1.cs=G1 at hK hcl hkl2 hxl2 hkl20 hkl21 q0 q1 hD ⊢
 generalize A5 g1.d=n1 at hK hcl hkl2 hxl2 hkl20 hkl21 q0 q1 hD ⊢
 obtain⟨u0,hu0⟩:∃x,x=g0.tb:=⟨_,rfl⟩
 rw[<- hu0] at hK
 simp only[<- hu0] at hD
 obtain⟨u1,hu1⟩:∃x,x=g1.tb:=⟨_,rfl⟩
 rw[<- hu1] at hK
 simp only[<- hu1] at hD
 refine B0.deepP (Q:=λr os=>r=.tup [.agg [.d (.str t.nm),.d (.sl E2),.arr 6 K2.length,.rs 8 2,.arr 9 X2.length],.d (eI 0)]/\os[6]?=some (.arr K2 1 0 b2)/\os[8]?=some (.rarr [[.arr 10 H0.length,.d (.str u0)],[.arr 11 H1.length,.d (.str u1)]] 2 false)/\os[9]?=some (.arr X2 7 0 Xs.isEmpty)/\os[10]?=some (.arr H0 1 0 n0)/\os[11]?=some (.arr H1 1 0 n1)) ?_ ?_
 ·rw[hkl2,hxl2]
  rw[hkl20,hkl21]
  refine V5.goO2 A4 rfl ?_
  repeat' first|refine st ?_|((with_reducible first|apply I5|apply I8);(·first|exact hK|exact hD _ _ _ _ _ _);(try rintro _ _ ⟨rfl,rfl⟩))|((with_reducible apply I9);(·first|exact hK|exact hD _ _ _ _ _ _))|refine⟨λ_=>?_,λ_=>?_⟩|fail
  exact⟨rfl,rfl,rfl,rfl,rfl,rfl⟩
 ·rintro r os ⟨rfl,hx0,hx1,hx2,hx3,hx4⟩
  refine V6 (rows:=[[.arr 10 H0.length,.d (.str u0)],[.arr 11 H1.length,.d (.str u1)]]) (fs:=[I1 i g0,I1 i g1]) (.inl (.inl rfl)) hx0 hx1 hx2 rfl (λi e g he hg=>?_)
  match i,he,hg with
  |0,he,hg=>cases he;cases hg;exact⟨10,_,n0,by rw[hu0];rfl,hx3,q0⟩
  |1,he,hg=>cases he;cases hg;exact⟨11,_,n1,by rw[hu1];rfl,hx4,q1⟩
  |i+2,he,hg=>simp at he
end Go.Proofs
end
section
set_option maxHeartbeats 8000000
namespace Go.Proofs
open Go.Bi
theorem C3m(nm:List UInt8)(es:List (List D))(hm:∀e∈es,e.length=3)(i:Nat)(hi:i<es.length)(hel:es.length<=1048576)(ks:List Int)(hkb:∀k∈ks,0<=k/\k<=1048576)(hkl:ks.length<=1048576)(kn:Bool)(hkn:kn=true->ks=[])(xs:List Ex)(hxl:xs.length<=1048576)(hxb:∀e∈xs,e.bk<=1048576)(xn:Bool)(hxn:xn=true->xs=[])(c0:List Int)(b0:Bool)(t0:List UInt8)(hc0:c0.length<=1048576)(hcb0:∀k∈c0,0<=k/\k<=1048576)(hn0:b0=true->c0=[])(c1:List Int)(b1:Bool)(t1:List UInt8)(hc1:c1.length<=1048576)(hcb1:∀k∈c1,0<=k/\k<=1048576)(hn1:b1=true->c1=[])(c2:List Int)(b2:Bool)(t2:List UInt8)(hc2:c2.length<=1048576)(hcb2:∀k∈c2,0<=k/\k<=1048576)(hn2:b2=true->c2=[]) :
  B0 Tryz.prog A0Y [.ptr 0 0,.d (eI i)] [.cells [.d (.str nm),.arr 1 es.length,.arr 2 (A0 ks).length,.rs 3 3,.arr 4 (xL xs).length],.arr es 3 0 false,.arr (A0 ks) 1 0 kn,.rarr [[.arr 5 (A0 c0).length,.d (.str t0)],[.arr 6 (A0 c1).length,.d (.str t1)],[.arr 7 (A0 c2).length,.d (.str t2)]] 2 false,.arr (xL xs) 7 0 xn,.arr (A0 c0) 1 0 b0,.arr (A0 c1) 1 0 b1,.arr (A0 c2) 1 0 b2]
   (λr os=>r=.tup []/\os=[.cells [.d (.str nm),.d (.sl (es.eraseIdx i)),.arr 2 (A0 ks).length,.rs 3 3,.arr 4 (xL xs).length],.arr (es.eraseIdx i++[M3]) 3 (es.length-1) false,.arr (A0 (ks.map λc=>A6 c i)) 1 0 kn,.rarr [[.arr 5 (A0 c0).length,.d (.str t0)],[.arr 6 (A0 c1).length,.d (.str t1)],[.arr 7 (A0 c2).length,.d (.str t2)]] 2 false,.arr (xL (xs.map (D8 (H5 es.length i)))) 7 0 xn,.arr (A0 (c0.map λc=>A6 c i)) 1 0 b0,.arr (A0 (c1.map λc=>A6 c i)) 1 0 b1,.arr (A0 (c2.map λc=>A6 c i)) 1 0 b2]):=by
 have hD:=fun {os:List AO} (ho:os[1]?=some (.arr es 3 0 false))=>A5l es hm i hi ho
 refine A5t.goX A4 rfl ?_
 repeat' first|refine st ?_|refine⟨λ_=>?_,λ_=>?_⟩|fail
 refine A00 4 7 rfl rfl ?_
 repeat' first|refine st ?_|refine⟨λ_=>?_,λ_=>?_⟩|fail
 refine I2 A4 A5D A5y (λ(k:Nat) (A:List (List D))=>[.arr 8 A.length,.d (eI k)]) (λk A=>[.cells [.d (.str nm),.arr 1 es.length,.arr 2 (A0 ks).length,.rs 3 3,.arr 4 (xL xs).length],.arr es 3 0 false,.arr (A0 ks) 1 0 kn,.rarr [[.arr 5 (A0 c0).length,.d (.str t0)],[.arr 6 (A0 c1).length,.d (.str t1)],[.arr 7 (A0 c2).length,.d (.str t2)]] 2 false,.arr (xL xs) 7 0 xn,.arr (A0 c0) 1 0 b0,.arr (A0 c1) 1 0 b1,.arr (A0 c2) 1 0 b2,.arr A 7 0 A.isEmpty]) (λk A=>k<=es.length/\A=xL (H5 k i)) (λk A=>es.length-k) 0 [] rfl rfl rfl rfl (λ_ _ _=>⟨rfl,rfl⟩) rfl ⟨by omega,by simp[H5,xL]⟩ ?_
 repeat' first|refine st ?_|refine⟨λ_=>?_,λ_=>?_⟩|fail
 intro k A ⟨h4,h5⟩
 have hAl:A.length=k:=by rw[h5,I7,A1l]
 have hAm:∀e∈A,e.length=7:=by rw[h5];exact O7 _
 by_cases hlt:k<es.length
 ·have hB:=W7 k i (by omega) (by omega)
  have hs:=A6G k i
  rw[<- h5] at hs
  obtain⟨b,hb⟩:∃b,b=A6 k i:=⟨_,rfl⟩
  rw[<- hb] at hB hs
  clear h5
  repeat' first|refine st ?_|refine⟨λ_=>?_,λ_=>?_⟩|fail
  refine⟨k+1,A++[[.int .i64 2,eI b,.int .i64 0,.int .i64 0,.str [],.str [],.nil]],?_,rfl,?_,by omega,by omega,hs⟩
  ·rfl
  ·rw[show(A++[[.int .i64 2,eI b,.int .i64 0,.int .i64 0,.str [],.str [],.nil]]).isEmpty=false by simp]
   first|rfl|skip
 ·have hke:k=es.length:=by omega
  rw[hke] at h5
  have hDc:=hD (os:=[.cells [.d (.str nm),.arr 1 es.length,.arr 2 (A0 ks).length,.rs 3 3,.arr 4 (xL xs).length],.arr es 3 0 false,.arr (A0 ks) 1 0 kn,.rarr [[.arr 5 (A0 c0).length,.d (.str t0)],[.arr 6 (A0 c1).length,.d (.str t1)],[.arr 7 (A0 c2).length,.d (.str t2)]] 2 false,.arr (xL xs) 7 0 xn,.arr (A0 c0) 1 0 b0,.arr (A0 c1) 1 0 b1,.arr (A0 c2) 1 0 b2,.arr A 7 0 A.isEmpty]) rfl
  obtain⟨es',hes'⟩:∃e,e=es.eraseIdx i:=⟨_,rfl⟩
  rw[<- hes'] at hDc ⊢
  obtain⟨M0,hM0⟩:∃L,L=H5 es.length i:=⟨_,rfl⟩
  have hMl:M0.length<=1048576:=by rw[hM0,A1l];exact hel
  rw[<- hM0] at h5 ⊢
  obtain⟨N0,hN0⟩:∃K,K=A0 (c0.map λc=>A6 c i):=⟨_,rfl⟩
  obtain⟨N1,hN1⟩:∃K,K=A0 (c1.map λc=>A6 c i):=⟨_,rfl⟩
  obtain⟨N2,hN2⟩:∃K,K=A0 (c2.map λc=>A6 c i):=⟨_,rfl⟩
  rw[<- hN0,<- hN1,<- hN2]
  repeat' first|(with_reducible apply A35)|refine st ?_|((with_reducible first|apply I5|apply I8);(·exact hDc);(try rintro _ _ ⟨rfl,rfl⟩))|((with_reducible apply I9);(·exact hDc))|refine⟨λ_=>?_,λ_=>?_⟩|fail
  refine F2 A4 A5E A5z (λ(j:Nat)=>[.d (eI j)]) (λj=>[.cells [.d (.str nm),.d (.sl es'),.arr 2 (A0 ks).length,.rs 3 3,.arr 4 (xL xs).length],.arr (es'++[M3]) 3 (es.length-1) false,.arr (A0 (D2 ks (λc=>A6 c i) j)) 1 0 kn,.rarr [[.arr 5 (A0 c0).length,.d (.str t0)],[.arr 6 (A0 c1).length,.d (.str t1)],[.arr 7 (A0 c2).length,.d (.str t2)]] 2 false,.arr (xL xs) 7 0 xn,.arr (A0 c0) 1 0 b0,.arr (A0 c1) 1 0 b1,.arr (A0 c2) 1 0 b2,.arr A 7 0 A.isEmpty]) (λj=>j<=ks.length) (λj=>ks.length-j) 0 rfl rfl rfl (by rw[s6];rfl) (λ_ _=>⟨rfl,rfl⟩) rfl (by omega) ?_
  repeat' first|refine st ?_|refine⟨λ_=>?_,λ_=>?_⟩|fail
  intro j h6
  have hKl:=s4 ks (λc=>A6 c i) j h6
  cases hy:ks[j]? with
  |some c=>
   obtain⟨hlt2,he2⟩:=A7.1 hy
   have hkf:kn=false:=by
    cases kn with
    |false=>rfl
    |true=>rw[hkn rfl] at hlt2;simp at hlt2
   subst hkf
   have hg:=K5 (s0 (λc=>A6 c i) hy)
   have hset:=s5 (λc=>A6 c i) hy
   obtain⟨cb1,cb2⟩:=hkb c (B9 hy)
   have hB:=W7 c i (by omega) (by omega)
   have hks:=B4 ks
   obtain⟨y,hyy⟩:∃y,y=A6 c i:=⟨_,rfl⟩
   rw[<- hyy] at hB hset
   have hset2:(A0 (D2 ks (λc=>A6 c i) j)).set j [eI y]=A0 (D2 ks (λc=>A6 c i) (j+1)):=by rw[p7,hset]
   have hml:=B4 (D2 ks (λc=>A6 c i) j)
   have hmm2:=C9 (D2 ks (λc=>A6 c i) j)
   obtain⟨X,hX⟩:∃X,X=A0 (D2 ks (λc=>A6 c i) j):=⟨_,rfl⟩
   rw[<- hX] at hg hset2 hml hmm2 ⊢
   repeat' first|refine st ?_|refine⟨λ_=>?_,λ_=>?_⟩|fail
   refine⟨j+1,rfl,rfl,?_,by omega,by omega⟩
   rw[show((j:Int)).toNat=j from G7 j,hset2]
  |none=>
   have hge:=C8.1 hy
   have hjk:j=ks.length:=by omega
   subst hjk
   rw[r9]
   have hks:=B4 ks
   obtain⟨K',hK'⟩:∃K,K=A0 (ks.map λc=>A6 c i):=⟨_,rfl⟩
   rw[<- hK']
   repeat' first|refine st ?_|refine⟨λ_=>?_,λ_=>?_⟩|fail
   refine A26 4 ?_
   refine Q5 A4 ?_
   repeat' first|refine st ?_|refine⟨λ_=>?_,λ_=>?_⟩|fail
   refine F2 A4 A1x A1w (λ(j:Nat)=>[.d (eI j)]) (λj=>[.cells [.d (.str nm),.d (.sl es'),.arr 2 (A0 ks).length,.rs 3 3,.arr 4 (xL xs).length],.arr (es'++[M3]) 3 (es.length-1) false,.arr K' 1 0 kn,.rarr [[.arr 5 (A0 c0).length,.d (.str t0)],[.arr 6 (A0 c1).length,.d (.str t1)],[.arr 7 (A0 c2).length,.d (.str t2)]] 2 false,.arr (xL xs) 7 0 xn,.arr (A0 (D2 c0 (λc=>A6 c i) j)) 1 0 b0,.arr (A0 c1) 1 0 b1,.arr (A0 c2) 1 0 b2,.arr A 7 0 A.isEmpty,.cells [.arr 5 (A0 c0).length,.d (.str t0)]]) (λj=>j<=c0.length) (λj=>c0.length-j) 0 rfl rfl rfl (by rw[s6];rfl) (λ_ _=>⟨rfl,rfl⟩) rfl (by omega) ?_
   repeat' first|refine st ?_|refine⟨λ_=>?_,λ_=>?_⟩|fail
   intro j h6
   have hKl:=s4 c0 (λc=>A6 c i) j h6
   cases hy:c0[j]? with
   |some c=>
    obtain⟨hlt2,he2⟩:=A7.1 hy
    have hkf:b0=false:=by
     cases b0 with
     |false=>rfl
     |true=>rw[hn0 rfl] at hlt2;simp at hlt2
    subst hkf
    have hg:=K5 (s0 (λc=>A6 c i) hy)
    have hset:=s5 (λc=>A6 c i) hy
    obtain⟨cb1,cb2⟩:=hcb0 c (B9 hy)
    have hB:=W7 c i (by omega) (by omega)
    have hks:=B4 c0
    obtain⟨y,hyy⟩:∃y,y=A6 c i:=⟨_,rfl⟩
    rw[<- hyy] at hB hset
    have hset2:(A0 (D2 c0 (λc=>A6 c i) j)).set j [eI y]=A0 (D2 c0 (λc=>A6 c i) (j+1)):=by rw[p7,hset]
    have hml:=B4 (D2 c0 (λc=>A6 c i) j)
    have hmm2:=C9 (D2 c0 (λc=>A6 c i) j)
    obtain⟨X,hX⟩:∃X,X=A0 (D2 c0 (λc=>A6 c i) j):=⟨_,rfl⟩
    rw[<- hX] at hg hset2 hml hmm2 ⊢
    repeat' first|refine st ?_|refine⟨λ_=>?_,λ_=>?_⟩|fail
    refine⟨j+1,rfl,rfl,?_,by omega,by omega⟩
    rw[show((j:Int)).toNat=j from G7 j,hset2]
   |none=>
    have hge:=C8.1 hy
    have hjk:j=c0.length:=by omega
    subst hjk
    rw[r9]
    have hks:=B4 c0
    rw[<- hN0]
    repeat' first|refine st ?_|refine⟨λ_=>?_,λ_=>?_⟩|fail
    refine Q5 A4 ?_
    repeat' first|refine st ?_|refine⟨λ_=>?_,λ_=>?_⟩|fail
    refine F2 A4 A1x A1w (λ(j:Nat)=>[.d (eI j)]) (λj=>[.cells [.d (.str nm),.d (.sl es'),.arr 2 (A0 ks).length,.rs 3 3,.arr 4 (xL xs).length],.arr (es'++[M3]) 3 (es.length-1) false,.arr K' 1 0 kn,.rarr [[.arr 5 (A0 c0).length,.d (.str t0)],[.arr 6 (A0 c1).length,.d (.str t1)],[.arr 7 (A0 c2).length,.d (.str t2)]] 2 false,.arr (xL xs) 7 0 xn,.arr N0 1 0 b0,.arr (A0 (D2 c1 (λc=>A6 c i) j)) 1 0 b1,.arr (A0 c2) 1 0 b2,.arr A 7 0 A.isEmpty,.cells [.arr 5 (A0 c0).length,.d (.str t0)],.cells [.arr 6 (A0 c1).length,.d (.str t1)]]) (λj=>j<=c1.length) (λj=>c1.length-j) 0 rfl rfl rfl (by rw[s6];rfl) (λ_ _=>⟨rfl,rfl⟩) rfl (by omega) ?_
    repeat' first|refine st ?_|refine⟨λ_=>?_,λ_=>?_⟩|fail
    intro j h6
    have hKl:=s4 c1 (λc=>A6 c i) j h6
    cases hy:c1[j]? with
    |some c=>
     obtain⟨hlt2,he2⟩:=A7.1 hy
     have hkf:b1=false:=by
      cases b1 with
      |false=>rfl
      |true=>rw[hn1 rfl] at hlt2;simp at hlt2
     subst hkf
     have hg:=K5 (s0 (λc=>A6 c i) hy)
     have hset:=s5 (λc=>A6 c i) hy
     obtain⟨cb1,cb2⟩:=hcb1 c (B9 hy)
     have hB:=W7 c i (by omega) (by omega)
     have hks:=B4 c1
     obtain⟨y,hyy⟩:∃y,y=A6 c i:=⟨_,rfl⟩
     rw[<- hyy] at hB hset
     have hset2:(A0 (D2 c1 (λc=>A6 c i) j)).set j [eI y]=A0 (D2 c1 (λc=>A6 c i) (j+1)):=by rw[p7,hset]
     have hml:=B4 (D2 c1 (λc=>A6 c i) j)
     have hmm2:=C9 (D2 c1 (λc=>A6 c i) j)
     obtain⟨X,hX⟩:∃X,X=A0 (D2 c1 (λc=>A6 c i) j):=⟨_,rfl⟩
     rw[<- hX] at hg hset2 hml hmm2 ⊢
     repeat' first|refine st ?_|refine⟨λ_=>?_,λ_=>?_⟩|fail
     refine⟨j+1,rfl,rfl,?_,by omega,by omega⟩
     rw[show((j:Int)).toNat=j from G7 j,hset2]
    |none=>
     have hge:=C8.1 hy
     have hjk:j=c1.length:=by omega
     subst hjk
     rw[r9]
     have hks:=B4 c1
     rw[<- hN1]
     repeat' first|refine st ?_|refine⟨λ_=>?_,λ_=>?_⟩|fail
     refine Q5 A4 ?_
     repeat' first|refine st ?_|refine⟨λ_=>?_,λ_=>?_⟩|fail
     refine F2 A4 A1x A1w (λ(j:Nat)=>[.d (eI j)]) (λj=>[.cells [.d (.str nm),.d (.sl es'),.arr 2 (A0 ks).length,.rs 3 3,.arr 4 (xL xs).length],.arr (es'++[M3]) 3 (es.length-1) false,.arr K' 1 0 kn,.rarr [[.arr 5 (A0 c0).length,.d (.str t0)],[.arr 6 (A0 c1).length,.d (.str t1)],[.arr 7 (A0 c2).length,.d (.str t2)]] 2 false,.arr (xL xs) 7 0 xn,.arr N0 1 0 b0,.arr N1 1 0 b1,.arr (A0 (D2 c2 (λc=>A6 c i) j)) 1 0 b2,.arr A 7 0 A.isEmpty,.cells [.arr 5 (A0 c0).length,.d (.str t0)],.cells [.arr 6 (A0 c1).length,.d (.str t1)],.cells [.arr 7 (A0 c2).length,.d (.str t2)]]) (λj=>j<=c2.length) (λj=>c2.length-j) 0 rfl rfl rfl (by rw[s6];rfl) (λ_ _=>⟨rfl,rfl⟩) rfl (by omega) ?_
     repeat' first|refine st ?_|refine⟨λ_=>?_,λ_=>?_⟩|fail
     intro j h6
     have hKl:=s4 c2 (λc=>A6 c i) j h6
     cases hy:c2[j]? with
     |some c=>
      obtain⟨hlt2,he2⟩:=A7.1 hy
      have hkf:b2=false:=by
       cases b2 with
       |false=>rfl
       |true=>rw[hn2 rfl] at hlt2;simp at hlt2
      subst hkf
      have hg:=K5 (s0 (λc=>A6 c i) hy)
      have hset:=s5 (λc=>A6 c i) hy
      obtain⟨cb1,cb2⟩:=hcb2 c (B9 hy)
      have hB:=W7 c i (by omega) (by omega)
      have hks:=B4 c2
      obtain⟨y,hyy⟩:∃y,y=A6 c i:=⟨_,rfl⟩
      rw[<- hyy] at hB hset
      have hset2:(A0 (D2 c2 (λc=>A6 c i) j)).set j [eI y]=A0 (D2 c2 (λc=>A6 c i) (j+1)):=by rw[p7,hset]
      have hml:=B4 (D2 c2 (λc=>A6 c i) j)
      have hmm2:=C9 (D2 c2 (λc=>A6 c i) j)
      obtain⟨X,hX⟩:∃X,X=A0 (D2 c2 (λc=>A6 c i) j):=⟨_,rfl⟩
      rw[<- hX] at hg hset2 hml hmm2 ⊢
      repeat' first|refine st ?_|refine⟨λ_=>?_,λ_=>?_⟩|fail
      refine⟨j+1,rfl,rfl,?_,by omega,by omega⟩
      rw[show((j:Int)).toNat=j from G7 j,hset2]
     |none=>
      have hge:=C8.1 hy
      have hjk:j=c2.length:=by omega
      subst hjk
      rw[r9]
      have hks:=B4 c2
      rw[<- hN2]
      repeat' first|refine st ?_|refine⟨λ_=>?_,λ_=>?_⟩|fail
      refine Q5 A4 ?_
      repeat' first|refine st ?_|refine⟨λ_=>?_,λ_=>?_⟩|fail
      have hAe:A.isEmpty=false:=by cases A with
       |nil=>simp at hAl;omega
       |cons a l=>rfl
      rw[hAe]
      have hXl:=I7 xs
      refine A2F 4 (id:=8) (len:=A.length) (sz:=7) (frz:=0) (nl:=false) (es:=A) rfl rfl rfl ?_
      rw[if_neg (by decide:¬(false=true))]
      repeat' first|refine st ?_|refine⟨λ_=>?_,λ_=>?_⟩|fail
      refine F2 A4 A5F A5A (λ(q:Nat)=>[.d (eI q)]) (λq=>[.cells [.d (.str nm),.d (.sl es'),.arr 2 (A0 ks).length,.rs 3 3,.arr 4 (xL xs).length],.arr (es'++[M3]) 3 (es.length-1) false,.arr K' 1 0 kn,.rarr [[.arr 5 (A0 c0).length,.d (.str t0)],[.arr 6 (A0 c1).length,.d (.str t1)],[.arr 7 (A0 c2).length,.d (.str t2)]] 2 false,.arr (xL (L7 xs (D8 M0) q)) 7 0 xn,.arr N0 1 0 b0,.arr N1 1 0 b1,.arr N2 1 0 b2,.arr A 7 A.length false,.cells [.arr 5 (A0 c0).length,.d (.str t0)],.cells [.arr 6 (A0 c1).length,.d (.str t1)],.cells [.arr 7 (A0 c2).length,.d (.str t2)]]) (λq=>q<=xs.length) (λq=>xs.length-q) 0 rfl rfl rfl (by rw[A6E];rfl) (λ_ _=>⟨rfl,rfl⟩) rfl (by omega) ?_
      repeat' first|refine st ?_|refine⟨λ_=>?_,λ_=>?_⟩|fail
      intro q h7
      have hMb:∀a∈M0,a.bk<=1048576:=by
       intro a ha
       rw[hM0] at ha
       obtain⟨b,_,rfl⟩:=D9.1 ha
       unfold mvE Ex.bk
       rw[Ex.ds_mk]
       exact P5 rfl
      have hXql:=A6C xs (D8 M0) q h7
      cases hx:xs[q]? with
      |some x=>
       obtain⟨hlt3,he3⟩:=A7.1 hx
       have hxf:xn=false:=by
        cases xn with
        |false=>rfl
        |true=>rw[hxn rfl] at hlt3;simp at hlt3
       subst hxf
       have hg:=A6B (D8 M0) hx
       have hset:=A6D (D8 M0) hx
       have hS:=A5g M0 hMl hMb (.sl A) (by rw[h5];exact J7) x (hxb x (B9 hx))
       have hq1:=I7 (L7 xs (D8 M0) q)
       have hq2:=O7 (L7 xs (D8 M0) q)
       obtain⟨z,hz⟩:∃z,z=D8 M0 x:=⟨_,rfl⟩
       rw[<- hz] at hS hset
       have hset2:(xL (L7 xs (D8 M0) q)).set q z.ds=xL (L7 xs (D8 M0) (q+1)):=by rw[<- hset];unfold xL;rw[W8]
       obtain⟨o1,n1,v1,m1,l1,a1⟩:=x
       obtain⟨o2,n2,v2,m2,l2,a2⟩:=z
       have hg:=o3 _ _ _ _ _ _ _ hg
       rw[Ex.av_mk,Ex.av_mk] at hS
       rw[Ex.ds_mk] at hset2
       obtain⟨X,hX⟩:∃X,X=xL (L7 xs (D8 M0) q):=⟨_,rfl⟩
       rw[<- hX] at hg hset2 hq1 hq2 ⊢
       repeat' first|refine st ?_|refine⟨λ_=>?_,λ_=>?_⟩|fail
       refine⟨q+1,rfl,rfl,?_,by omega,by omega⟩
       rw[show((q:Int)).toNat=q from G7 q,hset2]
      |none=>
       have hge:=C8.1 hx
       have hqk:q=xs.length:=by omega
       subst hqk
       rw[A6A]
       repeat' first|refine st ?_|refine⟨λ_=>?_,λ_=>?_⟩|fail
       exact⟨rfl,rfl⟩
theorem C3n(T0 T1 T2 T3 T4 T7:AO)(nm:List UInt8)(es:List (List D))(hm:∀e∈es,e.length=3)(i:Nat)(hi:i<es.length)(hel:es.length<=1048576)(ks:List Int)(hkb:∀k∈ks,0<=k/\k<=1048576)(hkl:ks.length<=1048576)(kn:Bool)(hkn:kn=true->ks=[])(xs:List Ex)(hxl:xs.length<=1048576)(hxb:∀e∈xs,e.bk<=1048576)(xn:Bool)(hxn:xn=true->xs=[])(c0:List Int)(b0:Bool)(t0:List UInt8)(hc0:c0.length<=1048576)(hcb0:∀k∈c0,0<=k/\k<=1048576)(hn0:b0=true->c0=[])(c1:List Int)(b1:Bool)(t1:List UInt8)(hc1:c1.length<=1048576)(hcb1:∀k∈c1,0<=k/\k<=1048576)(hn1:b1=true->c1=[])(c2:List Int)(b2:Bool)(t2:List UInt8)(hc2:c2.length<=1048576)(hcb2:∀k∈c2,0<=k/\k<=1048576)(hn2:b2=true->c2=[]) :
  B0 Tryz.prog A0Y [.ptr 13 0,.d (eI i)] [T0,T1,T2,T3,T4,.arr es 3 0 false,.arr (A0 ks) 1 0 kn,T7,.rarr [[.arr 10 (A0 c0).length,.d (.str t0)],[.arr 11 (A0 c1).length,.d (.str t1)],[.arr 12 (A0 c2).length,.d (.str t2)]] 2 false,.arr (xL xs) 7 0 xn,.arr (A0 c0) 1 0 b0,.arr (A0 c1) 1 0 b1,.arr (A0 c2) 1 0 b2,.cells [.d (.str nm),.arr 5 es.length,.arr 6 (A0 ks).length,.rs 8 3,.arr 9 (xL xs).length]]
   (λr os=>r=.tup []/\os=[T0,T1,T2,T3,T4,.arr (es.eraseIdx i++[M3]) 3 (es.length-1) false,.arr (A0 (ks.map λc=>A6 c i)) 1 0 kn,T7,.rarr [[.arr 10 (A0 c0).length,.d (.str t0)],[.arr 11 (A0 c1).length,.d (.str t1)],[.arr 12 (A0 c2).length,.d (.str t2)]] 2 false,.arr (xL (xs.map (D8 (H5 es.length i)))) 7 0 xn,.arr (A0 (c0.map λc=>A6 c i)) 1 0 b0,.arr (A0 (c1.map λc=>A6 c i)) 1 0 b1,.arr (A0 (c2.map λc=>A6 c i)) 1 0 b2,.cells [.d (.str nm),.d (.sl (es.eraseIdx i)),.arr 6 (A0 ks).length,.rs 8 3,.arr 9 (xL xs).length]]):=by
 have:=B0.frame (K:=λr os=>r=.tup []/\os=[T0,T1,T2,T3,T4,.arr (es.eraseIdx i++[M3]) 3 (es.length-1) false,.arr (A0 (ks.map λc=>A6 c i)) 1 0 kn,T7,.rarr [[.arr 10 (A0 c0).length,.d (.str t0)],[.arr 11 (A0 c1).length,.d (.str t1)],[.arr 12 (A0 c2).length,.d (.str t2)]] 2 false,.arr (xL (xs.map (D8 (H5 es.length i)))) 7 0 xn,.arr (A0 (c0.map λc=>A6 c i)) 1 0 b0,.arr (A0 (c1.map λc=>A6 c i)) 1 0 b1,.arr (A0 (c2.map λc=>A6 c i)) 1 0 b2,.cells [.d (.str nm),.d (.sl (es.eraseIdx i)),.arr 6 (A0 ks).length,.rs 8 3,.arr 9 (xL xs).length]]) (C3m nm es hm i hi hel ks hkb hkl kn hkn xs hxl hxb xn hxn c0 b0 t0 hc0 hcb0 hn0 c1 b1 t1 hc1 hcb1 hn1 c2 b2 t2 hc2 hcb2 hn2) [13,5,6,8,9,10,11,12]
  [T0,T1,T2,T3,T4,.arr es 3 0 false,.arr (A0 ks) 1 0 kn,T7,.rarr [[.arr 10 (A0 c0).length,.d (.str t0)],[.arr 11 (A0 c1).length,.d (.str t1)],[.arr 12 (A0 c2).length,.d (.str t2)]] 2 false,.arr (xL xs) 7 0 xn,.arr (A0 c0) 1 0 b0,.arr (A0 c1) 1 0 b1,.arr (A0 c2) 1 0 b2,.cells [.d (.str nm),.arr 5 es.length,.arr 6 (A0 ks).length,.rs 8 3,.arr 9 (xL xs).length]] rfl (by decide) (λi o h=>by
   match i,h with
   |0,h=>cases h;rfl
   |1,h=>cases h;rfl
   |2,h=>cases h;rfl
   |3,h=>cases h;rfl
   |4,h=>cases h;rfl
   |5,h=>cases h;rfl
   |6,h=>cases h;rfl
   |7,h=>cases h;rfl
   |i+8,h=>simp at h) (λa ha=>by
    simp only[I6,o4,or_false] at ha
    rcases ha with rfl|rfl<;>simp[AV.bnd2,AV.bnd1]) (λo ho=>by
    simp only[I6,o4,or_false] at ho
    rcases ho with rfl|rfl|rfl|rfl|rfl|rfl|rfl|rfl
    ·exact M6 rfl
    ·exact M6 rfl
    ·exact M6 rfl
    ·exact M6 rfl
    ·exact M6 rfl
    ·exact M6 rfl
    ·exact M6 rfl
    ·exact M6 rfl
    ) (by
   rintro r bs' ⟨rfl,rfl⟩
   exact⟨rfl,rfl⟩)
 exact this
end Go.Proofs
end
section
set_option maxHeartbeats 8000000
namespace Go.Proofs
open Go.Bi
theorem C2W(t:Tb)(dc dk df dx:D)(h:N6 t dc dk df dx)(c:Ch)(hc:H6 c)(hq:C7 t c=0)(g0 g1 g2:Fo)(hfs:t.fs=[g0,g1,g2])(hk:c.k=1) :
  Pure Tryz.prog Q9 [eT t.nm dc dk df dx,c.av] (.tup [eT t.nm (.sl (A9 (t.cs++[c.co]))) (B5 (A5 dk) (A0 t.ks)) (dF t.fs) (B5 (xL (t.xs.map (B7 0))).isEmpty (xL (t.xs.map (B7 0)))),.d (eI 0)]):=by
 have hC:=U4 t dc dk df dx h c hc
 rw[hq] at hC
 have hF:=S7 t.nm t.cs h.hl dc dk df dx h.dc c.nm
 have hl:=h.hl
 have hdf:=h.df
 have hfc:=h.hfc
 rw[hfs] at hdf hfc
 have hdf2:df=.sl (R6 [⟨g0.d,A0 g0.cs,A5 g0.d,g0.tb⟩,⟨g1.d,A0 g1.cs,A5 g1.d,g1.tb⟩,⟨g2.d,A0 g2.cs,A5 g2.d,g2.tb⟩]):=by
  rcases hdf with ⟨_,h2⟩|h2
  ·cases h2
  ·exact h2
 have hf0:(Fi.mk g0.d (A0 g0.cs) (A5 g0.d) g0.tb).ok:=G4 _ (by rw[B4];have:=(hfc g0 (by simp)).1;omega) (C9 _) g0.d g0.sld
 have hf1:(Fi.mk g1.d (A0 g1.cs) (A5 g1.d) g1.tb).ok:=G4 _ (by rw[B4];have:=(hfc g1 (by simp)).1;omega) (C9 _) g1.d g1.sld
 have hf2:(Fi.mk g2.d (A0 g2.cs) (A5 g2.d) g2.tb).ok:=G4 _ (by rw[B4];have:=(hfc g2 (by simp)).1;omega) (C9 _) g2.d g2.sld
 have hK:=A5d t.nm dc dk df dx (A9 t.cs) (A0 t.ks) (A5 dc) (A5 dk) (V4 _ (by rw[F3];omega) (H8 _) dc h.dc) (G4 _ (by rw[B4];have:=h.hk;omega) (C9 _) dk h.dk) _ _ _ hf0 hf1 hf2 hdf2 t.xs h.hxb h.hxs h.dx
 have hcl:=F3 t.cs
 have q0:g0.d=B5 (A5 g0.d) (A0 g0.cs):=(O6 g0.sld).symm
 have q1:g1.d=B5 (A5 g1.d) (A0 g1.cs):=(O6 g1.sld).symm
 have q2:g2.d=B5 (A5 g2.d) (A0 g2.cs):=(O6 g2.sld).symm
 have e1:A9 (t.cs++[c.co])=A9 t.cs++[c.co.ds]:=by simp[A9]
 rw[e1]
 obtain⟨k,nm,to,⟨cn,ck,cl⟩,⟨vk,vn,vs⟩⟩:=c
 dsimp only at hk
 subst hk
 obtain⟨f,hf⟩:∃f,f=D4 nm t.cs:=⟨_,rfl⟩
 have hF:Bi.Pure Tryz.prog U7 [eT t.nm dc dk df dx,.d (.str nm)] (.d (eI f)):=by rw[hf];exact hF
 rw[show dF t.fs=B5 false (G5 [g0,g1,g2]) by rw[hfs];rfl]
 generalize A9 t.cs=Cs at hK hcl q0 q1 q2 ⊢
 generalize A0 t.ks=Ks at hK hcl q0 q1 q2 ⊢
 generalize xL (t.xs.map (B7 0))=Xs at hK hcl q0 q1 q2 ⊢
 generalize A5 dk=b2 at hK hcl q0 q1 q2 ⊢
 generalize A5 dc=b1 at hK hcl q0 q1 q2 ⊢
 generalize A0 g0.cs=G0 at hK hcl q0 q1 q2 ⊢
 generalize A5 g0.d=n0 at hK hcl q0 q1 q2 ⊢
 generalize A0 g1.cs=G1 at hK hcl q0 q1 q2 ⊢
 generalize A5 g1.d=n1 at hK hcl q0 q1 q2 ⊢
 generalize A0 g2.cs=G2 at hK hcl q0 q1 q2 ⊢
 generalize A5 g2.d=n2 at hK hcl q0 q1 q2 ⊢
 obtain⟨u0,hu0⟩:∃x,x=g0.tb:=⟨_,rfl⟩
 rw[<- hu0] at hK
 obtain⟨u1,hu1⟩:∃x,x=g1.tb:=⟨_,rfl⟩
 rw[<- hu1] at hK
 obtain⟨u2,hu2⟩:∃x,x=g2.tb:=⟨_,rfl⟩
 rw[<- hu2] at hK
 refine B0.deepP (Q:=λr os=>r=.tup [.agg [.d (.str t.nm),.arr 5 (Cs++[[.str cn,eI ck,.bool cl]]).length,.arr 6 Ks.length,.rs 8 3,.arr 9 Xs.length],.d (eI 0)]/\os[5]?=some (.arr (Cs++[[.str cn,eI ck,.bool cl]]) 3 0 false)/\os[6]?=some (.arr Ks 1 0 b2)/\os[8]?=some (.rarr [[.arr 10 G0.length,.d (.str u0)],[.arr 11 G1.length,.d (.str u1)],[.arr 12 G2.length,.d (.str u2)]] 2 false)/\os[9]?=some (.arr Xs 7 0 Xs.isEmpty)/\os[10]?=some (.arr G0 1 0 n0)/\os[11]?=some (.arr G1 1 0 n1)/\os[12]?=some (.arr G2 1 0 n2)) ?_ ?_
 ·refine V5.goO2 A4 rfl ?_
  repeat' first|refine st ?_|((with_reducible first|apply I5|apply I8);(·exact hK);(try rintro _ _ ⟨rfl,rfl⟩))|((with_reducible apply I9);(·exact hK))|refine⟨λ_=>?_,λ_=>?_⟩|fail
  exact⟨rfl,rfl,rfl,rfl,rfl,rfl,rfl,rfl⟩
 ·rintro r os ⟨rfl,hx0,hx1,hx2,hx3,hx4,hx5,hx6⟩
  refine V6 (rows:=[[.arr 10 G0.length,.d (.str u0)],[.arr 11 G1.length,.d (.str u1)],[.arr 12 G2.length,.d (.str u2)]]) (fs:=[g0,g1,g2]) (.inl (.inr ⟨5,_,3,0,false,rfl,hx0,rfl⟩)) hx1 hx2 hx3 rfl (λi e g he hg=>?_)
  match i,he,hg with
  |0,he,hg=>cases he;cases hg;exact⟨10,_,n0,by rw[hu0],hx4,q0⟩
  |1,he,hg=>cases he;cases hg;exact⟨11,_,n1,by rw[hu1],hx5,q1⟩
  |2,he,hg=>cases he;cases hg;exact⟨12,_,n2,by rw[hu2],hx6,q2⟩
  |i+3,he,hg=>simp at he
theorem C2Y(t:Tb)(dc dk df dx:D)(h:N6 t dc dk df dx)(c:Ch)(hc:H6 c)(hq:C7 t c=0)(g0 g1 g2:Fo)(hfs:t.fs=[g0,g1,g2])(hk:c.k=3)(i:Nat)(hi:D4 c.nm t.cs=i)(co:Co)(hco:t.cs[i]?=some co)(hdc:dc=.sl (A9 t.cs)) :
  Pure Tryz.prog Q9 [eT t.nm dc dk df dx,c.av] (.tup [eT t.nm (.sl (A9 (t.cs.set i ⟨c.to,co.k,co.nl⟩))) (B5 (A5 dk) (A0 t.ks)) (dF t.fs) (B5 (xL (t.xs.map (B7 0))).isEmpty (xL (t.xs.map (B7 0)))),.d (eI 0)]):=by
 have hC:=U4 t dc dk df dx h c hc
 rw[hq] at hC
 have hF:=S7 t.nm t.cs h.hl dc dk df dx h.dc c.nm
 have hl:=h.hl
 have hdf:=h.df
 have hfc:=h.hfc
 rw[hfs] at hdf hfc
 rw[hi] at hF
 have hdf2:df=.sl (R6 [⟨g0.d,A0 g0.cs,A5 g0.d,g0.tb⟩,⟨g1.d,A0 g1.cs,A5 g1.d,g1.tb⟩,⟨g2.d,A0 g2.cs,A5 g2.d,g2.tb⟩]):=by
  rcases hdf with ⟨_,h2⟩|h2
  ·cases h2
  ·exact h2
 have hf0:(Fi.mk g0.d (A0 g0.cs) (A5 g0.d) g0.tb).ok:=G4 _ (by rw[B4];have:=(hfc g0 (by simp)).1;omega) (C9 _) g0.d g0.sld
 have hf1:(Fi.mk g1.d (A0 g1.cs) (A5 g1.d) g1.tb).ok:=G4 _ (by rw[B4];have:=(hfc g1 (by simp)).1;omega) (C9 _) g1.d g1.sld
 have hf2:(Fi.mk g2.d (A0 g2.cs) (A5 g2.d) g2.tb).ok:=G4 _ (by rw[B4];have:=(hfc g2 (by simp)).1;omega) (C9 _) g2.d g2.sld
 have hK:=A5d t.nm dc dk df dx (A9 t.cs) (A0 t.ks) (A5 dc) (A5 dk) (V4 _ (by rw[F3];omega) (H8 _) dc h.dc) (G4 _ (by rw[B4];have:=h.hk;omega) (C9 _) dk h.dk) _ _ _ hf0 hf1 hf2 hdf2 t.xs h.hxb h.hxs h.dx
 have hcl:=F3 t.cs
 rw[show A5 dc=false by rw[hdc];rfl] at hK
 have q0:g0.d=B5 (A5 g0.d) (A0 g0.cs):=(O6 g0.sld).symm
 have q1:g1.d=B5 (A5 g1.d) (A0 g1.cs):=(O6 g1.sld).symm
 have q2:g2.d=B5 (A5 g2.d) (A0 g2.cs):=(O6 g2.sld).symm
 have hg:(A9 t.cs)[((i:Nat):Int).toNat]?=some [.str co.nm,eI co.k,.bool co.nl]:=L4 hco
 have hg2:(A9 t.cs)[i]?=some [.str co.nm,eI co.k,.bool co.nl]:=L4 hco
 have hmm:=H8 t.cs
 have hilt:i<(A9 t.cs).length:=by rw[hcl];exact(A7.1 hco).1
 have e1:A9 (t.cs.set i ⟨c.to,co.k,co.nl⟩)=(A9 t.cs).set i [.str c.to,eI co.k,.bool co.nl]:=by unfold A9;rw[W8]
 rw[e1]
 obtain⟨k,nm,to,⟨cn,ck,cl⟩,⟨vk,vn,vs⟩⟩:=c
 dsimp only at hk
 subst hk
 have hF:Bi.Pure Tryz.prog U7 [eT t.nm dc dk df dx,.d (.str nm)] (.d (eI i)):=hF
 rw[show dF t.fs=B5 false (G5 [g0,g1,g2]) by rw[hfs];rfl]
 generalize A9 t.cs=Cs at hK hcl hg hg2 hmm hilt q0 q1 q2 ⊢
 generalize A0 t.ks=Ks at hK hcl hg hg2 hmm hilt q0 q1 q2 ⊢
 generalize xL (t.xs.map (B7 0))=Xs at hK hcl hg hg2 hmm hilt q0 q1 q2 ⊢
 generalize A5 dk=b2 at hK hcl hg hg2 hmm hilt q0 q1 q2 ⊢
 generalize A0 g0.cs=G0 at hK hcl hg hg2 hmm hilt q0 q1 q2 ⊢
 generalize A5 g0.d=n0 at hK hcl hg hg2 hmm hilt q0 q1 q2 ⊢
 generalize A0 g1.cs=G1 at hK hcl hg hg2 hmm hilt q0 q1 q2 ⊢
 generalize A5 g1.d=n1 at hK hcl hg hg2 hmm hilt q0 q1 q2 ⊢
 generalize A0 g2.cs=G2 at hK hcl hg hg2 hmm hilt q0 q1 q2 ⊢
 generalize A5 g2.d=n2 at hK hcl hg hg2 hmm hilt q0 q1 q2 ⊢
 obtain⟨u0,hu0⟩:∃x,x=g0.tb:=⟨_,rfl⟩
 rw[<- hu0] at hK
 obtain⟨u1,hu1⟩:∃x,x=g1.tb:=⟨_,rfl⟩
 rw[<- hu1] at hK
 obtain⟨u2,hu2⟩:∃x,x=g2.tb:=⟨_,rfl⟩
 rw[<- hu2] at hK
 refine B0.deepP (Q:=λr os=>r=.tup [.agg [.d (.str t.nm),.arr 5 (Cs.set i [.str to,eI co.k,.bool co.nl]).length,.arr 6 Ks.length,.rs 8 3,.arr 9 Xs.length],.d (eI 0)]/\os[5]?=some (.arr (Cs.set i [.str to,eI co.k,.bool co.nl]) 3 0 false)/\os[6]?=some (.arr Ks 1 0 b2)/\os[8]?=some (.rarr [[.arr 10 G0.length,.d (.str u0)],[.arr 11 G1.length,.d (.str u1)],[.arr 12 G2.length,.d (.str u2)]] 2 false)/\os[9]?=some (.arr Xs 7 0 Xs.isEmpty)/\os[10]?=some (.arr G0 1 0 n0)/\os[11]?=some (.arr G1 1 0 n1)/\os[12]?=some (.arr G2 1 0 n2)) ?_ ?_
 ·refine V5.goO2 A4 rfl ?_
  rw[U6]
  repeat' first|refine st ?_|((with_reducible first|apply I5|apply I8);(·exact hK);(try rintro _ _ ⟨rfl,rfl⟩))|((with_reducible apply I9);(·exact hK))|refine⟨λ_=>?_,λ_=>?_⟩|fail
  exact⟨rfl,rfl,rfl,rfl,rfl,rfl,rfl,rfl⟩
 ·rintro r os ⟨rfl,hx0,hx1,hx2,hx3,hx4,hx5,hx6⟩
  refine V6 (rows:=[[.arr 10 G0.length,.d (.str u0)],[.arr 11 G1.length,.d (.str u1)],[.arr 12 G2.length,.d (.str u2)]]) (fs:=[g0,g1,g2]) (.inl (.inr ⟨5,_,3,0,false,rfl,hx0,rfl⟩)) hx1 hx2 hx3 rfl (λi e g he hg=>?_)
  match i,he,hg with
  |0,he,hg=>cases he;cases hg;exact⟨10,_,n0,by rw[hu0],hx4,q0⟩
  |1,he,hg=>cases he;cases hg;exact⟨11,_,n1,by rw[hu1],hx5,q1⟩
  |2,he,hg=>cases he;cases hg;exact⟨12,_,n2,by rw[hu2],hx6,q2⟩
  |i+3,he,hg=>simp at he
theorem C2Z(t:Tb)(dc dk df dx:D)(h:N6 t dc dk df dx)(c:Ch)(hc:H6 c)(hq:C7 t c=0)(g0 g1 g2:Fo)(hfs:t.fs=[g0,g1,g2])(hk:c.k=4)(i:Nat)(hi:D4 c.nm t.cs=i)(co:Co)(hco:t.cs[i]?=some co)(hdc:dc=.sl (A9 t.cs)) :
  Pure Tryz.prog Q9 [eT t.nm dc dk df dx,c.av] (.tup [eT t.nm (.sl (A9 (t.cs.set i ⟨co.nm,2,co.nl⟩))) (B5 (A5 dk) (A0 t.ks)) (dF t.fs) (B5 (xL (t.xs.map (B7 0))).isEmpty (xL (t.xs.map (B7 0)))),.d (eI 0)]):=by
 have hC:=U4 t dc dk df dx h c hc
 rw[hq] at hC
 have hF:=S7 t.nm t.cs h.hl dc dk df dx h.dc c.nm
 have hl:=h.hl
 have hdf:=h.df
 have hfc:=h.hfc
 rw[hfs] at hdf hfc
 rw[hi] at hF
 have hdf2:df=.sl (R6 [⟨g0.d,A0 g0.cs,A5 g0.d,g0.tb⟩,⟨g1.d,A0 g1.cs,A5 g1.d,g1.tb⟩,⟨g2.d,A0 g2.cs,A5 g2.d,g2.tb⟩]):=by
  rcases hdf with ⟨_,h2⟩|h2
  ·cases h2
  ·exact h2
 have hf0:(Fi.mk g0.d (A0 g0.cs) (A5 g0.d) g0.tb).ok:=G4 _ (by rw[B4];have:=(hfc g0 (by simp)).1;omega) (C9 _) g0.d g0.sld
 have hf1:(Fi.mk g1.d (A0 g1.cs) (A5 g1.d) g1.tb).ok:=G4 _ (by rw[B4];have:=(hfc g1 (by simp)).1;omega) (C9 _) g1.d g1.sld
 have hf2:(Fi.mk g2.d (A0 g2.cs) (A5 g2.d) g2.tb).ok:=G4 _ (by rw[B4];have:=(hfc g2 (by simp)).1;omega) (C9 _) g2.d g2.sld
 have hK:=A5d t.nm dc dk df dx (A9 t.cs) (A0 t.ks) (A5 dc) (A5 dk) (V4 _ (by rw[F3];omega) (H8 _) dc h.dc) (G4 _ (by rw[B4];have:=h.hk;omega) (C9 _) dk h.dk) _ _ _ hf0 hf1 hf2 hdf2 t.xs h.hxb h.hxs h.dx
 have hcl:=F3 t.cs
 rw[show A5 dc=false by rw[hdc];rfl] at hK
 have q0:g0.d=B5 (A5 g0.d) (A0 g0.cs):=(O6 g0.sld).symm
 have q1:g1.d=B5 (A5 g1.d) (A0 g1.cs):=(O6 g1.sld).symm
 have q2:g2.d=B5 (A5 g2.d) (A0 g2.cs):=(O6 g2.sld).symm
 have hg:(A9 t.cs)[((i:Nat):Int).toNat]?=some [.str co.nm,eI co.k,.bool co.nl]:=L4 hco
 have hg2:(A9 t.cs)[i]?=some [.str co.nm,eI co.k,.bool co.nl]:=L4 hco
 have hmm:=H8 t.cs
 have hilt:i<(A9 t.cs).length:=by rw[hcl];exact(A7.1 hco).1
 have e1:A9 (t.cs.set i ⟨co.nm,2,co.nl⟩)=(A9 t.cs).set i [.str co.nm,eI 2,.bool co.nl]:=by unfold A9;rw[W8]
 rw[e1]
 obtain⟨k,nm,to,⟨cn,ck,cl⟩,⟨vk,vn,vs⟩⟩:=c
 dsimp only at hk
 subst hk
 have hF:Bi.Pure Tryz.prog U7 [eT t.nm dc dk df dx,.d (.str nm)] (.d (eI i)):=hF
 rw[show dF t.fs=B5 false (G5 [g0,g1,g2]) by rw[hfs];rfl]
 generalize A9 t.cs=Cs at hK hcl hg hg2 hmm hilt q0 q1 q2 ⊢
 generalize A0 t.ks=Ks at hK hcl hg hg2 hmm hilt q0 q1 q2 ⊢
 generalize xL (t.xs.map (B7 0))=Xs at hK hcl hg hg2 hmm hilt q0 q1 q2 ⊢
 generalize A5 dk=b2 at hK hcl hg hg2 hmm hilt q0 q1 q2 ⊢
 generalize A0 g0.cs=G0 at hK hcl hg hg2 hmm hilt q0 q1 q2 ⊢
 generalize A5 g0.d=n0 at hK hcl hg hg2 hmm hilt q0 q1 q2 ⊢
 generalize A0 g1.cs=G1 at hK hcl hg hg2 hmm hilt q0 q1 q2 ⊢
 generalize A5 g1.d=n1 at hK hcl hg hg2 hmm hilt q0 q1 q2 ⊢
 generalize A0 g2.cs=G2 at hK hcl hg hg2 hmm hilt q0 q1 q2 ⊢
 generalize A5 g2.d=n2 at hK hcl hg hg2 hmm hilt q0 q1 q2 ⊢
 obtain⟨u0,hu0⟩:∃x,x=g0.tb:=⟨_,rfl⟩
 rw[<- hu0] at hK
 obtain⟨u1,hu1⟩:∃x,x=g1.tb:=⟨_,rfl⟩
 rw[<- hu1] at hK
 obtain⟨u2,hu2⟩:∃x,x=g2.tb:=⟨_,rfl⟩
 rw[<- hu2] at hK
 refine B0.deepP (Q:=λr os=>r=.tup [.agg [.d (.str t.nm),.arr 5 (Cs.set i [.str co.nm,eI 2,.bool co.nl]).length,.arr 6 Ks.length,.rs 8 3,.arr 9 Xs.length],.d (eI 0)]/\os[5]?=some (.arr (Cs.set i [.str co.nm,eI 2,.bool co.nl]) 3 0 false)/\os[6]?=some (.arr Ks 1 0 b2)/\os[8]?=some (.rarr [[.arr 10 G0.length,.d (.str u0)],[.arr 11 G1.length,.d (.str u1)],[.arr 12 G2.length,.d (.str u2)]] 2 false)/\os[9]?=some (.arr Xs 7 0 Xs.isEmpty)/\os[10]?=some (.arr G0 1 0 n0)/\os[11]?=some (.arr G1 1 0 n1)/\os[12]?=some (.arr G2 1 0 n2)) ?_ ?_
 ·refine V5.goO2 A4 rfl ?_
  rw[U6]
  repeat' first|refine st ?_|((with_reducible first|apply I5|apply I8);(·exact hK);(try rintro _ _ ⟨rfl,rfl⟩))|((with_reducible apply I9);(·exact hK))|refine⟨λ_=>?_,λ_=>?_⟩|fail
  exact⟨rfl,rfl,rfl,rfl,rfl,rfl,rfl,rfl⟩
 ·rintro r os ⟨rfl,hx0,hx1,hx2,hx3,hx4,hx5,hx6⟩
  refine V6 (rows:=[[.arr 10 G0.length,.d (.str u0)],[.arr 11 G1.length,.d (.str u1)],[.arr 12 G2.length,.d (.str u2)]]) (fs:=[g0,g1,g2]) (.inl (.inr ⟨5,_,3,0,false,rfl,hx0,rfl⟩)) hx1 hx2 hx3 rfl (λi e g he hg=>?_)
  match i,he,hg with
  |0,he,hg=>cases he;cases hg;exact⟨10,_,n0,by rw[hu0],hx4,q0⟩
  |1,he,hg=>cases he;cases hg;exact⟨11,_,n1,by rw[hu1],hx5,q1⟩
  |2,he,hg=>cases he;cases hg;exact⟨12,_,n2,by rw[hu2],hx6,q2⟩
  |i+3,he,hg=>simp at he
theorem C2X(t:Tb)(dc dk df dx:D)(h:N6 t dc dk df dx)(c:Ch)(hc:H6 c)(hq:C7 t c=0)(g0 g1 g2:Fo)(hfs:t.fs=[g0,g1,g2])(hk:c.k=2)(i:Nat)(hi:D4 c.nm t.cs=i)(hil:i<t.cs.length)(hdc:dc=.sl (A9 t.cs))(hkb:∀k∈t.ks,0<=k/\k<=1048576)(hfb:∀g∈t.fs,∀k∈g.cs,0<=k/\k<=1048576)(hxb:∀e∈t.xs.map (B7 0),e.bk<=1048576) :
  Pure Tryz.prog Q9 [eT t.nm dc dk df dx,c.av] (.tup [eT t.nm (.sl (A9 (t.cs.eraseIdx i))) (B5 (A5 dk) (A0 (t.ks.map λc=>A6 c i))) (dF (t.fs.map (I1 i))) (B5 (xL (t.xs.map (B7 0))).isEmpty (xL ((t.xs.map (B7 0)).map (D8 (H5 t.cs.length i))))),.d (eI 0)]):=by
 have hC:=U4 t dc dk df dx h c hc
 rw[hq] at hC
 have hF:=S7 t.nm t.cs h.hl dc dk df dx h.dc c.nm
 have hl:=h.hl
 have hdf:=h.df
 have hfc:=h.hfc
 rw[hfs] at hdf hfc
 rw[hi] at hF
 have hdf2:df=.sl (R6 [⟨g0.d,A0 g0.cs,A5 g0.d,g0.tb⟩,⟨g1.d,A0 g1.cs,A5 g1.d,g1.tb⟩,⟨g2.d,A0 g2.cs,A5 g2.d,g2.tb⟩]):=by
  rcases hdf with ⟨_,h2⟩|h2
  ·cases h2
  ·exact h2
 have hf0:(Fi.mk g0.d (A0 g0.cs) (A5 g0.d) g0.tb).ok:=G4 _ (by rw[B4];have:=(hfc g0 (by simp)).1;omega) (C9 _) g0.d g0.sld
 have hf1:(Fi.mk g1.d (A0 g1.cs) (A5 g1.d) g1.tb).ok:=G4 _ (by rw[B4];have:=(hfc g1 (by simp)).1;omega) (C9 _) g1.d g1.sld
 have hf2:(Fi.mk g2.d (A0 g2.cs) (A5 g2.d) g2.tb).ok:=G4 _ (by rw[B4];have:=(hfc g2 (by simp)).1;omega) (C9 _) g2.d g2.sld
 have hK:=A5d t.nm dc dk df dx (A9 t.cs) (A0 t.ks) (A5 dc) (A5 dk) (V4 _ (by rw[F3];omega) (H8 _) dc h.dc) (G4 _ (by rw[B4];have:=h.hk;omega) (C9 _) dk h.dk) _ _ _ hf0 hf1 hf2 hdf2 t.xs h.hxb h.hxs h.dx
 have hcl:=F3 t.cs
 rw[show A5 dc=false by rw[hdc];rfl] at hK
 have hkN:A5 dk=true->t.ks=[]:=λhh=>by
  have:=m8 h.dk hh
  cases hks:t.ks with
  |nil=>rfl
  |cons a l=>rw[hks] at this;cases this
 have hxN:(xL (t.xs.map (B7 0))).isEmpty=true->t.xs.map (B7 0)=[]:=by
  intro hh
  cases hx:t.xs.map (B7 0) with
  |nil=>rfl
  |cons a l=>rw[hx] at hh;cases hh
 have hN0:A5 g0.d=true->g0.cs=[]:=λhh=>by
  have:=m8 g0.sld hh
  cases hks:g0.cs with
  |nil=>rfl
  |cons a l=>rw[hks] at this;cases this
 have hB0:=hfb g0 (by rw[hfs];simp)
 have hN1:A5 g1.d=true->g1.cs=[]:=λhh=>by
  have:=m8 g1.sld hh
  cases hks:g1.cs with
  |nil=>rfl
  |cons a l=>rw[hks] at this;cases this
 have hB1:=hfb g1 (by rw[hfs];simp)
 have hN2:A5 g2.d=true->g2.cs=[]:=λhh=>by
  have:=m8 g2.sld hh
  cases hks:g2.cs with
  |nil=>rfl
  |cons a l=>rw[hks] at this;cases this
 have hB2:=hfb g2 (by rw[hfs];simp)
 have hD:=λT0 T1 T2 T3 T4 T7=>C3n T0 T1 T2 T3 T4 T7 t.nm (A9 t.cs) (H8 _) i (by rw[hcl];exact hil) (by rw[hcl];exact hl) t.ks hkb h.hk (A5 dk) hkN (t.xs.map (B7 0)) (by rw[C6];exact h.hxs) hxb _ hxN g0.cs (A5 g0.d) g0.tb (hfc g0 (by simp)).1 hB0 hN0 g1.cs (A5 g1.d) g1.tb (hfc g1 (by simp)).1 hB1 hN1 g2.cs (A5 g2.d) g2.tb (hfc g2 (by simp)).1 hB2 hN2
 rw[hcl] at hD
 have hkl2:(A0 (t.ks.map λc=>A6 c i)).length=(A0 t.ks).length:=by rw[B4,B4,C6]
 have hxl2:(xL ((t.xs.map (B7 0)).map (D8 (H5 t.cs.length i)))).length=(xL (t.xs.map (B7 0))).length:=by rw[I7,I7,C6]
 have hkl20:(A0 (g0.cs.map λc=>A6 c i)).length=(A0 g0.cs).length:=by rw[B4,B4,C6]
 have hkl21:(A0 (g1.cs.map λc=>A6 c i)).length=(A0 g1.cs).length:=by rw[B4,B4,C6]
 have hkl22:(A0 (g2.cs.map λc=>A6 c i)).length=(A0 g2.cs).length:=by rw[B4,B4,C6]
 have q0:(I1 i g0).d=B5 (A5 g0.d) (A0 (g0.cs.map λc=>A6 c i)):=A1D i g0
 have q1:(I1 i g1).d=B5 (A5 g1.d) (A0 (g1.cs.map λc=>A6 c i)):=A1D i g1
 have q2:(I1 i g2).d=B5 (A5 g2.d) (A0 (g2.cs.map λc=>A6 c i)):=A1D i g2
 have e1:A9 (t.cs.eraseIdx i)=(A9 t.cs).eraseIdx i:=A4B _ _
 rw[e1]
 obtain⟨k,nm,to,⟨cn,ck,cl⟩,⟨vk,vn,vs⟩⟩:=c
 dsimp only at hk
 subst hk
 have hF:Bi.Pure Tryz.prog U7 [eT t.nm dc dk df dx,.d (.str nm)] (.d (eI i)):=hF
 rw[show dF (t.fs.map (I1 i))=B5 false (G5 [I1 i g0,I1 i g1,I1 i g2]) by rw[hfs];rfl]
 rw[hcl] at hK
 generalize A0 (t.ks.map λc=>A6 c i)=K2 at hK hcl hkl2 hxl2 hkl20 hkl21 hkl22 q0 q1 q2 hD ⊢
 generalize xL ((t.xs.map (B7 0)).map (D8 (H5 t.cs.length i)))=X2 at hK hcl hkl2 hxl2 hkl20 hkl21 hkl22 q0 q1 q2 hD ⊢
 generalize (A9 t.cs).eraseIdx i=E2 at hK hcl hkl2 hxl2 hkl20 hkl21 hkl22 q0 q1 q2 hD ⊢
 generalize A0 (g0.cs.map λc=>A6 c i)=H0 at hK hcl hkl2 hxl2 hkl20 hkl21 hkl22 q0 q1 q2 hD ⊢
 generalize A0 (g1.cs.map λc=>A6 c i)=H1 at hK hcl hkl2 hxl2 hkl20 hkl21 hkl22 q0 q1 q2 hD ⊢
 generalize A0 (g2.cs.map λc=>A6 c i)=H2 at hK hcl hkl2 hxl2 hkl20 hkl21 hkl22 q0 q1 q2 hD ⊢
 generalize A9 t.cs=Cs at hK hcl hkl2 hxl2 hkl20 hkl21 hkl22 q0 q1 q2 hD ⊢
 generalize A0 t.ks=Ks at hK hcl hkl2 hxl2 hkl20 hkl21 hkl22 q0 q1 q2 hD ⊢
 generalize xL (t.xs.map (B7 0))=Xs at hK hcl hkl2 hxl2 hkl20 hkl21 hkl22 q0 q1 q2 hD ⊢
 generalize A5 dk=b2 at hK hcl hkl2 hxl2 hkl20 hkl21 hkl22 q0 q1 q2 hD ⊢
 generalize A0 g0.cs=G0 at hK hcl hkl2 hxl2 hkl20 hkl21 hkl22 q0 q1 q2 hD ⊢
 generalize A5 g0.d=n0 at hK hcl hkl2 hxl2 hkl20 hkl21 hkl22 q0 q1 q2 hD ⊢
 generalize A0 g1.cs=G1 at hK hcl hkl2 hxl2 hkl20 hkl21 hkl22 q0 q1 q2 hD ⊢
 generalize A5 g1.d=n1 at hK hcl hkl2 hxl2 hkl20 hkl21 hkl22 q0 q1 q2 hD ⊢
 generalize A0 g2.cs=G2 at hK hcl hkl2 hxl2 hkl20 hkl21 hkl22 q0 q1 q2 hD ⊢
 generalize A5 g2.d=n2 at hK hcl hkl2 hxl2 hkl20 hkl21 hkl22 q0 q1 q2 hD ⊢
 obtain⟨u0,hu0⟩:∃x,x=g0.tb:=⟨_,rfl⟩
 rw[<- hu0] at hK
 simp only[<- hu0] at hD
 obtain⟨u1,hu1⟩:∃x,x=g1.tb:=⟨_,rfl⟩
 rw[<- hu1] at hK
 simp only[<- hu1] at hD
 obtain⟨u2,hu2⟩:∃x,x=g2.tb:=⟨_,rfl⟩
 rw[<- hu2] at hK
 simp only[<- hu2] at hD
 refine B0.deepP (Q:=λr os=>r=.tup [.agg [.d (.str t.nm),.d (.sl E2),.arr 6 K2.length,.rs 8 3,.arr 9 X2.length],.d (eI 0)]/\os[6]?=some (.arr K2 1 0 b2)/\os[8]?=some (.rarr [[.arr 10 H0.length,.d (.str u0)],[.arr 11 H1.length,.d (.str u1)],[.arr 12 H2.length,.d (.str u2)]] 2 false)/\os[9]?=some (.arr X2 7 0 Xs.isEmpty)/\os[10]?=some (.arr H0 1 0 n0)/\os[11]?=some (.arr H1 1 0 n1)/\os[12]?=some (.arr H2 1 0 n2)) ?_ ?_
 ·rw[hkl2,hxl2]
  rw[hkl20,hkl21,hkl22]
  refine V5.goO2 A4 rfl ?_
  repeat' first|refine st ?_|((with_reducible first|apply I5|apply I8);(·first|exact hK|exact hD _ _ _ _ _ _);(try rintro _ _ ⟨rfl,rfl⟩))|((with_reducible apply I9);(·first|exact hK|exact hD _ _ _ _ _ _))|refine⟨λ_=>?_,λ_=>?_⟩|fail
  exact⟨rfl,rfl,rfl,rfl,rfl,rfl,rfl⟩
 ·rintro r os ⟨rfl,hx0,hx1,hx2,hx3,hx4,hx5⟩
  refine V6 (rows:=[[.arr 10 H0.length,.d (.str u0)],[.arr 11 H1.length,.d (.str u1)],[.arr 12 H2.length,.d (.str u2)]]) (fs:=[I1 i g0,I1 i g1,I1 i g2]) (.inl (.inl rfl)) hx0 hx1 hx2 rfl (λi e g he hg=>?_)
  match i,he,hg with
  |0,he,hg=>cases he;cases hg;exact⟨10,_,n0,by rw[hu0];rfl,hx3,q0⟩
  |1,he,hg=>cases he;cases hg;exact⟨11,_,n1,by rw[hu1];rfl,hx4,q1⟩
  |2,he,hg=>cases he;cases hg;exact⟨12,_,n2,by rw[hu2];rfl,hx5,q2⟩
  |i+3,he,hg=>simp at he
end Go.Proofs
end
