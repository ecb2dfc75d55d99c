/- Texts of this claim, joined. No condition. -/
import Derived.Test.YtlkkaepbnnakpaaGreatDoorQ7
set_option linter.unusedSimpArgs false
set_option linter.unusedVariables false
set_option maxRecDepth 10000
set_option maxHeartbeats 4000000
section
set_option maxHeartbeats 8000000
namespace Go.Proofs
open Go.Bi
theorem C.drop4(nm:List UInt8)(es:List (List D))(hm:∀e∈es,e.length=3)(i:Nat)(hi:i<es.length)(hel:es.length<=1048576)(ks:List Int)(hkb:∀k∈ks,0<=k/\k<=1048576)(hkl:ks.length<=1048576)(kn:Bool)(hkn:kn=true->ks=[])(xs:List Ex)(hxl:xs.length<=1048576)(hxb:∀e∈xs,e.bk<=1048576)(xn:Bool)(hxn:xn=true->xs=[])(c0:List Int)(b0:Bool)(t0:List UInt8)(hc0:c0.length<=1048576)(hcb0:∀k∈c0,0<=k/\k<=1048576)(hn0:b0=true->c0=[])(c1:List Int)(b1:Bool)(t1:List UInt8)(hc1:c1.length<=1048576)(hcb1:∀k∈c1,0<=k/\k<=1048576)(hn1:b1=true->c1=[])(c2:List Int)(b2:Bool)(t2:List UInt8)(hc2:c2.length<=1048576)(hcb2:∀k∈c2,0<=k/\k<=1048576)(hn2:b2=true->c2=[])(c3:List Int)(b3:Bool)(t3:List UInt8)(hc3:c3.length<=1048576)(hcb3:∀k∈c3,0<=k/\k<=1048576)(hn3:b3=true->c3=[]) :
  CallSpec Tryz.prog N.evolve_drop [.ptr 0 0,.d (eI i)] [.cells [.d (.str nm),.arr 1 es.length,.arr 2 (eIs ks).length,.rs 3 4,.arr 4 (xL xs).length],.arr es 3 0 false,.arr (eIs ks) 1 0 kn,.rarr [[.arr 5 (eIs c0).length,.d (.str t0)],[.arr 6 (eIs c1).length,.d (.str t1)],[.arr 7 (eIs c2).length,.d (.str t2)],[.arr 8 (eIs c3).length,.d (.str t3)]] 2 false,.arr (xL xs) 7 0 xn,.arr (eIs c0) 1 0 b0,.arr (eIs c1) 1 0 b1,.arr (eIs c2) 1 0 b2,.arr (eIs c3) 1 0 b3]
   (λr os=>r=.tup []/\os=[.cells [.d (.str nm),.d (.sl (es.eraseIdx i)),.arr 2 (eIs ks).length,.rs 3 4,.arr 4 (xL xs).length],.arr (es.eraseIdx i++[zRow]) 3 (es.length-1) false,.arr (eIs (ks.map λc=>belowI c i)) 1 0 kn,.rarr [[.arr 5 (eIs c0).length,.d (.str t0)],[.arr 6 (eIs c1).length,.d (.str t1)],[.arr 7 (eIs c2).length,.d (.str t2)],[.arr 8 (eIs c3).length,.d (.str t3)]] 2 false,.arr (xL (xs.map (subX (mvL es.length i)))) 7 0 xn,.arr (eIs (c0.map λc=>belowI c i)) 1 0 b0,.arr (eIs (c1.map λc=>belowI c i)) 1 0 b1,.arr (eIs (c2.map λc=>belowI c i)) 1 0 b2,.arr (eIs (c3.map λc=>belowI c i)) 1 0 b3]):=by
 have hD:=fun {os:List AO} (ho:os[1]?=some (.arr es 3 0 false))=>C.slices_Delete es hm i hi ho
 refine F.evolve_drop.goX mixed rfl ?_
 repeat' first|refine st ?_|(with_reducible first|apply k_d|apply k_b)<;>intro _
 refine x_nil 4 7 rfl rfl ?_
 repeat' first|refine st ?_|(with_reducible first|apply k_d|apply k_b)<;>intro _
 refine x_loop2 mixed Lt.evolve_drop_l0 Lk.evolve_drop_l0 (λ(k:Nat) (A:List (List D))=>[.arr 9 A.length,.d (eI k)]) (λk A=>[.cells [.d (.str nm),.arr 1 es.length,.arr 2 (eIs ks).length,.rs 3 4,.arr 4 (xL xs).length],.arr es 3 0 false,.arr (eIs ks) 1 0 kn,.rarr [[.arr 5 (eIs c0).length,.d (.str t0)],[.arr 6 (eIs c1).length,.d (.str t1)],[.arr 7 (eIs c2).length,.d (.str t2)],[.arr 8 (eIs c3).length,.d (.str t3)]] 2 false,.arr (xL xs) 7 0 xn,.arr (eIs c0) 1 0 b0,.arr (eIs c1) 1 0 b1,.arr (eIs c2) 1 0 b2,.arr (eIs c3) 1 0 b3,.arr A 7 0 A.isEmpty]) (λk A=>k<=es.length/\A=xL (mvL k i)) (λk A=>es.length-k) 0 [] rfl rfl rfl rfl (λ_ _ _=>⟨rfl,rfl⟩) rfl ⟨by omega,by simp[mvL,xL]⟩ ?_
 repeat' first|refine st ?_|(with_reducible first|apply k_d|apply k_b)<;>intro _
 intro k A ⟨h4,h5⟩
 have hAl:A.length=k:=by rw[h5,xL_len,mvL_len]
 have hAm:∀e∈A,e.length=7:=by rw[h5];exact xL_mem _
 by_cases hlt:k<es.length
 ·have hB:=C.evolve_below k i (by omega) (by omega)
  have hs:=mvL_succ k i
  rw[<- h5] at hs
  obtain⟨b,hb⟩:∃b,b=belowI k i:=⟨_,rfl⟩
  rw[<- hb] at hB hs
  clear h5
  repeat' first|refine st ?_|((with_reducible first|apply k_pn|apply k_pc);(·exact hB))|(with_reducible first|apply k_d|apply k_b)<;>intro _
  refine⟨k+1,A++[[.int .i64 2,eI b,.int .i64 0,.int .i64 0,.str [],.str [],.nil]],?_,rfl,?_,by omega,by omega,hs⟩
  ·rfl
  ·rw[show(A++[[.int .i64 2,eI b,.int .i64 0,.int .i64 0,.str [],.str [],.nil]]).isEmpty=false by simp]
   first|rfl|skip
 ·have hke:k=es.length:=by omega
  rw[hke] at h5
  have hDc:=hD (os:=[.cells [.d (.str nm),.arr 1 es.length,.arr 2 (eIs ks).length,.rs 3 4,.arr 4 (xL xs).length],.arr es 3 0 false,.arr (eIs ks) 1 0 kn,.rarr [[.arr 5 (eIs c0).length,.d (.str t0)],[.arr 6 (eIs c1).length,.d (.str t1)],[.arr 7 (eIs c2).length,.d (.str t2)],[.arr 8 (eIs c3).length,.d (.str t3)]] 2 false,.arr (xL xs) 7 0 xn,.arr (eIs c0) 1 0 b0,.arr (eIs c1) 1 0 b1,.arr (eIs c2) 1 0 b2,.arr (eIs c3) 1 0 b3,.arr A 7 0 A.isEmpty]) rfl
  obtain⟨es',hes'⟩:∃e,e=es.eraseIdx i:=⟨_,rfl⟩
  rw[<- hes'] at hDc ⊢
  obtain⟨M0,hM0⟩:∃L,L=mvL es.length i:=⟨_,rfl⟩
  have hMl:M0.length<=1048576:=by rw[hM0,mvL_len];exact hel
  rw[<- hM0] at h5 ⊢
  obtain⟨N0,hN0⟩:∃K,K=eIs (c0.map λc=>belowI c i):=⟨_,rfl⟩
  obtain⟨N1,hN1⟩:∃K,K=eIs (c1.map λc=>belowI c i):=⟨_,rfl⟩
  obtain⟨N2,hN2⟩:∃K,K=eIs (c2.map λc=>belowI c i):=⟨_,rfl⟩
  obtain⟨N3,hN3⟩:∃K,K=eIs (c3.map λc=>belowI c i):=⟨_,rfl⟩
  rw[<- hN0,<- hN1,<- hN2,<- hN3]
  repeat' first|(with_reducible apply k_cal)|refine st ?_|((with_reducible first|apply k_nc|apply k_cs);(·exact hDc);(try rintro _ _ ⟨rfl,rfl⟩))|((with_reducible apply k_pr);(·exact hDc))|((with_reducible apply k_cal);refine st ?_;(with_reducible apply k_chk);(·exact rfl);refine st ?_;(with_reducible apply k_cs);(·exact hDc);(try rintro _ _ ⟨rfl,rfl⟩))|(with_reducible first|apply k_d|apply k_b)<;>intro _
  refine x_loop1 mixed Lt.evolve_drop_l1 Lk.evolve_drop_l1 (λ(j:Nat)=>[.d (eI j)]) (λj=>[.cells [.d (.str nm),.d (.sl es'),.arr 2 (eIs ks).length,.rs 3 4,.arr 4 (xL xs).length],.arr (es'++[zRow]) 3 (es.length-1) false,.arr (eIs (mixI ks (λc=>belowI c i) j)) 1 0 kn,.rarr [[.arr 5 (eIs c0).length,.d (.str t0)],[.arr 6 (eIs c1).length,.d (.str t1)],[.arr 7 (eIs c2).length,.d (.str t2)],[.arr 8 (eIs c3).length,.d (.str t3)]] 2 false,.arr (xL xs) 7 0 xn,.arr (eIs c0) 1 0 b0,.arr (eIs c1) 1 0 b1,.arr (eIs c2) 1 0 b2,.arr (eIs c3) 1 0 b3,.arr A 7 0 A.isEmpty]) (λj=>j<=ks.length) (λj=>ks.length-j) 0 rfl rfl rfl (by rw[mixI_zero];rfl) (λ_ _=>⟨rfl,rfl⟩) rfl (by omega) ?_
  repeat' first|refine st ?_|(with_reducible first|apply k_d|apply k_b)<;>intro _
  intro j h6
  have hKl:=mixI_len ks (λc=>belowI c i) j h6
  cases hy:ks[j]? with
  |some c=>
   obtain⟨hlt2,he2⟩:=List.getElem?_eq_some_iff.1 hy
   have hkf:kn=false:=by
    cases kn with
    |false=>rfl
    |true=>rw[hkn rfl] at hlt2;simp at hlt2
   subst hkf
   have hg:=eIs_get (mixI_get (λc=>belowI c i) hy)
   have hset:=mixI_set (λc=>belowI c i) hy
   obtain⟨cb1,cb2⟩:=hkb c (List.mem_of_getElem? hy)
   have hB:=C.evolve_below c i (by omega) (by omega)
   have hks:=eIs_len ks
   obtain⟨y,hyy⟩:∃y,y=belowI c i:=⟨_,rfl⟩
   rw[<- hyy] at hB hset
   have hset2:(eIs (mixI ks (λc=>belowI c i) j)).set j [eI y]=eIs (mixI ks (λc=>belowI c i) (j+1)):=by rw[eIs_set,hset]
   have hml:=eIs_len (mixI ks (λc=>belowI c i) j)
   have hmm2:=eIs_mem (mixI ks (λc=>belowI c i) j)
   obtain⟨X,hX⟩:∃X,X=eIs (mixI ks (λc=>belowI c i) j):=⟨_,rfl⟩
   rw[<- hX] at hg hset2 hml hmm2 ⊢
   repeat' first|refine st ?_|((with_reducible first|apply k_pn|apply k_pc);(·exact hB))|(with_reducible first|apply k_d|apply k_b)<;>intro _
   refine⟨j+1,rfl,rfl,?_,by omega,by omega⟩
   rw[show((j:Int)).toNat=j from Int.toNat_natCast j,hset2]
  |none=>
   have hge:=List.getElem?_eq_none_iff.1 hy
   have hjk:j=ks.length:=by omega
   subst hjk
   rw[mixI_end]
   have hks:=eIs_len ks
   obtain⟨K',hK'⟩:∃K,K=eIs (ks.map λc=>belowI c i):=⟨_,rfl⟩
   rw[<- hK']
   repeat' first|refine st ?_|(with_reducible first|apply k_d|apply k_b)<;>intro _
   refine x_rounds 5 ?_
   refine x_round mixed ?_
   repeat' first|refine st ?_|(with_reducible first|apply k_d|apply k_b)<;>intro _
   refine x_loop1 mixed Lt.evolve_drop_l2 Lk.evolve_drop_l2 (λ(j:Nat)=>[.d (eI j)]) (λj=>[.cells [.d (.str nm),.d (.sl es'),.arr 2 (eIs ks).length,.rs 3 4,.arr 4 (xL xs).length],.arr (es'++[zRow]) 3 (es.length-1) false,.arr K' 1 0 kn,.rarr [[.arr 5 (eIs c0).length,.d (.str t0)],[.arr 6 (eIs c1).length,.d (.str t1)],[.arr 7 (eIs c2).length,.d (.str t2)],[.arr 8 (eIs c3).length,.d (.str t3)]] 2 false,.arr (xL xs) 7 0 xn,.arr (eIs (mixI c0 (λc=>belowI c i) j)) 1 0 b0,.arr (eIs c1) 1 0 b1,.arr (eIs c2) 1 0 b2,.arr (eIs c3) 1 0 b3,.arr A 7 0 A.isEmpty,.cells [.arr 5 (eIs c0).length,.d (.str t0)]]) (λj=>j<=c0.length) (λj=>c0.length-j) 0 rfl rfl rfl (by rw[mixI_zero];rfl) (λ_ _=>⟨rfl,rfl⟩) rfl (by omega) ?_
   repeat' first|refine st ?_|(with_reducible first|apply k_d|apply k_b)<;>intro _
   intro j h6
   have hKl:=mixI_len c0 (λc=>belowI c i) j h6
   cases hy:c0[j]? with
   |some c=>
    obtain⟨hlt2,he2⟩:=List.getElem?_eq_some_iff.1 hy
    have hkf:b0=false:=by
     cases b0 with
     |false=>rfl
     |true=>rw[hn0 rfl] at hlt2;simp at hlt2
    subst hkf
    have hg:=eIs_get (mixI_get (λc=>belowI c i) hy)
    have hset:=mixI_set (λc=>belowI c i) hy
    obtain⟨cb1,cb2⟩:=hcb0 c (List.mem_of_getElem? hy)
    have hB:=C.evolve_below c i (by omega) (by omega)
    have hks:=eIs_len c0
    obtain⟨y,hyy⟩:∃y,y=belowI c i:=⟨_,rfl⟩
    rw[<- hyy] at hB hset
    have hset2:(eIs (mixI c0 (λc=>belowI c i) j)).set j [eI y]=eIs (mixI c0 (λc=>belowI c i) (j+1)):=by rw[eIs_set,hset]
    have hml:=eIs_len (mixI c0 (λc=>belowI c i) j)
    have hmm2:=eIs_mem (mixI c0 (λc=>belowI c i) j)
    obtain⟨X,hX⟩:∃X,X=eIs (mixI c0 (λc=>belowI c i) j):=⟨_,rfl⟩
    rw[<- hX] at hg hset2 hml hmm2 ⊢
    repeat' first|refine st ?_|((with_reducible first|apply k_pn|apply k_pc);(·exact hB))|(with_reducible first|apply k_d|apply k_b)<;>intro _
    refine⟨j+1,rfl,rfl,?_,by omega,by omega⟩
    rw[show((j:Int)).toNat=j from Int.toNat_natCast j,hset2]
   |none=>
    have hge:=List.getElem?_eq_none_iff.1 hy
    have hjk:j=c0.length:=by omega
    subst hjk
    rw[mixI_end]
    have hks:=eIs_len c0
    rw[<- hN0]
    repeat' first|refine st ?_|(with_reducible first|apply k_d|apply k_b)<;>intro _
    refine x_round mixed ?_
    repeat' first|refine st ?_|(with_reducible first|apply k_d|apply k_b)<;>intro _
    refine x_loop1 mixed Lt.evolve_drop_l2 Lk.evolve_drop_l2 (λ(j:Nat)=>[.d (eI j)]) (λj=>[.cells [.d (.str nm),.d (.sl es'),.arr 2 (eIs ks).length,.rs 3 4,.arr 4 (xL xs).length],.arr (es'++[zRow]) 3 (es.length-1) false,.arr K' 1 0 kn,.rarr [[.arr 5 (eIs c0).length,.d (.str t0)],[.arr 6 (eIs c1).length,.d (.str t1)],[.arr 7 (eIs c2).length,.d (.str t2)],[.arr 8 (eIs c3).length,.d (.str t3)]] 2 false,.arr (xL xs) 7 0 xn,.arr N0 1 0 b0,.arr (eIs (mixI c1 (λc=>belowI c i) j)) 1 0 b1,.arr (eIs c2) 1 0 b2,.arr (eIs c3) 1 0 b3,.arr A 7 0 A.isEmpty,.cells [.arr 5 (eIs c0).length,.d (.str t0)],.cells [.arr 6 (eIs c1).length,.d (.str t1)]]) (λj=>j<=c1.length) (λj=>c1.length-j) 0 rfl rfl rfl (by rw[mixI_zero];rfl) (λ_ _=>⟨rfl,rfl⟩) rfl (by omega) ?_
    repeat' first|refine st ?_|(with_reducible first|apply k_d|apply k_b)<;>intro _
    intro j h6
    have hKl:=mixI_len c1 (λc=>belowI c i) j h6
    cases hy:c1[j]? with
    |some c=>
     obtain⟨hlt2,he2⟩:=List.getElem?_eq_some_iff.1 hy
     have hkf:b1=false:=by
      cases b1 with
      |false=>rfl
      |true=>rw[hn1 rfl] at hlt2;simp at hlt2
     subst hkf
     have hg:=eIs_get (mixI_get (λc=>belowI c i) hy)
     have hset:=mixI_set (λc=>belowI c i) hy
     obtain⟨cb1,cb2⟩:=hcb1 c (List.mem_of_getElem? hy)
     have hB:=C.evolve_below c i (by omega) (by omega)
     have hks:=eIs_len c1
     obtain⟨y,hyy⟩:∃y,y=belowI c i:=⟨_,rfl⟩
     rw[<- hyy] at hB hset
     have hset2:(eIs (mixI c1 (λc=>belowI c i) j)).set j [eI y]=eIs (mixI c1 (λc=>belowI c i) (j+1)):=by rw[eIs_set,hset]
     have hml:=eIs_len (mixI c1 (λc=>belowI c i) j)
     have hmm2:=eIs_mem (mixI c1 (λc=>belowI c i) j)
     obtain⟨X,hX⟩:∃X,X=eIs (mixI c1 (λc=>belowI c i) j):=⟨_,rfl⟩
     rw[<- hX] at hg hset2 hml hmm2 ⊢
     repeat' first|refine st ?_|((with_reducible first|apply k_pn|apply k_pc);(·exact hB))|(with_reducible first|apply k_d|apply k_b)<;>intro _
     refine⟨j+1,rfl,rfl,?_,by omega,by omega⟩
     rw[show((j:Int)).toNat=j from Int.toNat_natCast j,hset2]
    |none=>
     have hge:=List.getElem?_eq_none_iff.1 hy
     have hjk:j=c1.length:=by omega
     subst hjk
     rw[mixI_end]
     have hks:=eIs_len c1
     rw[<- hN1]
     repeat' first|refine st ?_|(with_reducible first|apply k_d|apply k_b)<;>intro _
     refine x_round mixed ?_
     repeat' first|refine st ?_|(with_reducible first|apply k_d|apply k_b)<;>intro _
     refine x_loop1 mixed Lt.evolve_drop_l2 Lk.evolve_drop_l2 (λ(j:Nat)=>[.d (eI j)]) (λj=>[.cells [.d (.str nm),.d (.sl es'),.arr 2 (eIs ks).length,.rs 3 4,.arr 4 (xL xs).length],.arr (es'++[zRow]) 3 (es.length-1) false,.arr K' 1 0 kn,.rarr [[.arr 5 (eIs c0).length,.d (.str t0)],[.arr 6 (eIs c1).length,.d (.str t1)],[.arr 7 (eIs c2).length,.d (.str t2)],[.arr 8 (eIs c3).length,.d (.str t3)]] 2 false,.arr (xL xs) 7 0 xn,.arr N0 1 0 b0,.arr N1 1 0 b1,.arr (eIs (mixI c2 (λc=>belowI c i) j)) 1 0 b2,.arr (eIs c3) 1 0 b3,.arr A 7 0 A.isEmpty,.cells [.arr 5 (eIs c0).length,.d (.str t0)],.cells [.arr 6 (eIs c1).length,.d (.str t1)],.cells [.arr 7 (eIs c2).length,.d (.str t2)]]) (λj=>j<=c2.length) (λj=>c2.length-j) 0 rfl rfl rfl (by rw[mixI_zero];rfl) (λ_ _=>⟨rfl,rfl⟩) rfl (by omega) ?_
     repeat' first|refine st ?_|(with_reducible first|apply k_d|apply k_b)<;>intro _
     intro j h6
     have hKl:=mixI_len c2 (λc=>belowI c i) j h6
     cases hy:c2[j]? with
     |some c=>
      obtain⟨hlt2,he2⟩:=List.getElem?_eq_some_iff.1 hy
      have hkf:b2=false:=by
       cases b2 with
       |false=>rfl
       |true=>rw[hn2 rfl] at hlt2;simp at hlt2
      subst hkf
      have hg:=eIs_get (mixI_get (λc=>belowI c i) hy)
      have hset:=mixI_set (λc=>belowI c i) hy
      obtain⟨cb1,cb2⟩:=hcb2 c (List.mem_of_getElem? hy)
      have hB:=C.evolve_below c i (by omega) (by omega)
      have hks:=eIs_len c2
      obtain⟨y,hyy⟩:∃y,y=belowI c i:=⟨_,rfl⟩
      rw[<- hyy] at hB hset
      have hset2:(eIs (mixI c2 (λc=>belowI c i) j)).set j [eI y]=eIs (mixI c2 (λc=>belowI c i) (j+1)):=by rw[eIs_set,hset]
      have hml:=eIs_len (mixI c2 (λc=>belowI c i) j)
      have hmm2:=eIs_mem (mixI c2 (λc=>belowI c i) j)
      obtain⟨X,hX⟩:∃X,X=eIs (mixI c2 (λc=>belowI c i) j):=⟨_,rfl⟩
      rw[<- hX] at hg hset2 hml hmm2 ⊢
      repeat' first|refine st ?_|((with_reducible first|apply k_pn|apply k_pc);(·exact hB))|(with_reducible first|apply k_d|apply k_b)<;>intro _
      refine⟨j+1,rfl,rfl,?_,by omega,by omega⟩
      rw[show((j:Int)).toNat=j from Int.toNat_natCast j,hset2]
     |none=>
      have hge:=List.getElem?_eq_none_iff.1 hy
      have hjk:j=c2.length:=by omega
      subst hjk
      rw[mixI_end]
      have hks:=eIs_len c2
      rw[<- hN2]
      repeat' first|refine st ?_|(with_reducible first|apply k_d|apply k_b)<;>intro _
      refine x_round mixed ?_
      repeat' first|refine st ?_|(with_reducible first|apply k_d|apply k_b)<;>intro _
      refine x_loop1 mixed Lt.evolve_drop_l2 Lk.evolve_drop_l2 (λ(j:Nat)=>[.d (eI j)]) (λj=>[.cells [.d (.str nm),.d (.sl es'),.arr 2 (eIs ks).length,.rs 3 4,.arr 4 (xL xs).length],.arr (es'++[zRow]) 3 (es.length-1) false,.arr K' 1 0 kn,.rarr [[.arr 5 (eIs c0).length,.d (.str t0)],[.arr 6 (eIs c1).length,.d (.str t1)],[.arr 7 (eIs c2).length,.d (.str t2)],[.arr 8 (eIs c3).length,.d (.str t3)]] 2 false,.arr (xL xs) 7 0 xn,.arr N0 1 0 b0,.arr N1 1 0 b1,.arr N2 1 0 b2,.arr (eIs (mixI c3 (λc=>belowI c i) j)) 1 0 b3,.arr A 7 0 A.isEmpty,.cells [.arr 5 (eIs c0).length,.d (.str t0)],.cells [.arr 6 (eIs c1).length,.d (.str t1)],.cells [.arr 7 (eIs c2).length,.d (.str t2)],.cells [.arr 8 (eIs c3).length,.d (.str t3)]]) (λj=>j<=c3.length) (λj=>c3.length-j) 0 rfl rfl rfl (by rw[mixI_zero];rfl) (λ_ _=>⟨rfl,rfl⟩) rfl (by omega) ?_
      repeat' first|refine st ?_|(with_reducible first|apply k_d|apply k_b)<;>intro _
      intro j h6
      have hKl:=mixI_len c3 (λc=>belowI c i) j h6
      cases hy:c3[j]? with
      |some c=>
       obtain⟨hlt2,he2⟩:=List.getElem?_eq_some_iff.1 hy
       have hkf:b3=false:=by
        cases b3 with
        |false=>rfl
        |true=>rw[hn3 rfl] at hlt2;simp at hlt2
       subst hkf
       have hg:=eIs_get (mixI_get (λc=>belowI c i) hy)
       have hset:=mixI_set (λc=>belowI c i) hy
       obtain⟨cb1,cb2⟩:=hcb3 c (List.mem_of_getElem? hy)
       have hB:=C.evolve_below c i (by omega) (by omega)
       have hks:=eIs_len c3
       obtain⟨y,hyy⟩:∃y,y=belowI c i:=⟨_,rfl⟩
       rw[<- hyy] at hB hset
       have hset2:(eIs (mixI c3 (λc=>belowI c i) j)).set j [eI y]=eIs (mixI c3 (λc=>belowI c i) (j+1)):=by rw[eIs_set,hset]
       have hml:=eIs_len (mixI c3 (λc=>belowI c i) j)
       have hmm2:=eIs_mem (mixI c3 (λc=>belowI c i) j)
       obtain⟨X,hX⟩:∃X,X=eIs (mixI c3 (λc=>belowI c i) j):=⟨_,rfl⟩
       rw[<- hX] at hg hset2 hml hmm2 ⊢
       repeat' first|refine st ?_|((with_reducible first|apply k_pn|apply k_pc);(·exact hB))|(with_reducible first|apply k_d|apply k_b)<;>intro _
       refine⟨j+1,rfl,rfl,?_,by omega,by omega⟩
       rw[show((j:Int)).toNat=j from Int.toNat_natCast j,hset2]
      |none=>
       have hge:=List.getElem?_eq_none_iff.1 hy
       have hjk:j=c3.length:=by omega
       subst hjk
       rw[mixI_end]
       have hks:=eIs_len c3
       rw[<- hN3]
       repeat' first|refine st ?_|(with_reducible first|apply k_d|apply k_b)<;>intro _
       refine x_round mixed ?_
       repeat' first|refine st ?_|(with_reducible first|apply k_d|apply k_b)<;>intro _
       have hAe:A.isEmpty=false:=by cases A with
        |nil=>simp at hAl;omega
        |cons a l=>rfl
       rw[hAe]
       have hXl:=xL_len xs
       refine x_frz 4 (id:=9) (len:=A.length) (sz:=7) (frz:=0) (nl:=false) (es:=A) rfl rfl rfl ?_
       rw[if_neg (by decide:¬(false=true))]
       repeat' first|refine st ?_|(with_reducible first|apply k_d|apply k_b)<;>intro _
       refine x_loop1 mixed Lt.evolve_drop_l4 Lk.evolve_drop_l4 (λ(q:Nat)=>[.d (eI q)]) (λq=>[.cells [.d (.str nm),.d (.sl es'),.arr 2 (eIs ks).length,.rs 3 4,.arr 4 (xL xs).length],.arr (es'++[zRow]) 3 (es.length-1) false,.arr K' 1 0 kn,.rarr [[.arr 5 (eIs c0).length,.d (.str t0)],[.arr 6 (eIs c1).length,.d (.str t1)],[.arr 7 (eIs c2).length,.d (.str t2)],[.arr 8 (eIs c3).length,.d (.str t3)]] 2 false,.arr (xL (mixX xs (subX M0) q)) 7 0 xn,.arr N0 1 0 b0,.arr N1 1 0 b1,.arr N2 1 0 b2,.arr N3 1 0 b3,.arr A 7 A.length false,.cells [.arr 5 (eIs c0).length,.d (.str t0)],.cells [.arr 6 (eIs c1).length,.d (.str t1)],.cells [.arr 7 (eIs c2).length,.d (.str t2)],.cells [.arr 8 (eIs c3).length,.d (.str t3)]]) (λq=>q<=xs.length) (λq=>xs.length-q) 0 rfl rfl rfl (by rw[mixX_zero];rfl) (λ_ _=>⟨rfl,rfl⟩) rfl (by omega) ?_
       repeat' first|refine st ?_|(with_reducible first|apply k_d|apply k_b)<;>intro _
       intro q h7
       have hMb:∀a∈M0,a.bk<=1048576:=by
        intro a ha
        rw[hM0] at ha
        obtain⟨b,_,rfl⟩:=List.mem_map.1 ha
        unfold mvE Ex.bk
        rw[Ex.ds_mk]
        exact Nat.le_of_ble_eq_true rfl
       have hXql:=mixX_len xs (subX M0) q h7
       cases hx:xs[q]? with
       |some x=>
        obtain⟨hlt3,he3⟩:=List.getElem?_eq_some_iff.1 hx
        have hxf:xn=false:=by
         cases xn with
         |false=>rfl
         |true=>rw[hxn rfl] at hlt3;simp at hlt3
        subst hxf
        have hg:=mixX_get (subX M0) hx
        have hset:=mixX_set (subX M0) hx
        have hS:=C.expr_Substitute M0 hMl hMb (.sl A) (by rw[h5];exact sld_sl) x (hxb x (List.mem_of_getElem? hx))
        have hq1:=xL_len (mixX xs (subX M0) q)
        have hq2:=xL_mem (mixX xs (subX M0) q)
        obtain⟨z,hz⟩:∃z,z=subX M0 x:=⟨_,rfl⟩
        rw[<- hz] at hS hset
        have hset2:(xL (mixX xs (subX M0) q)).set q z.ds=xL (mixX xs (subX M0) (q+1)):=by rw[<- hset];unfold xL;rw[List.map_set]
        obtain⟨o1,n1,v1,m1,l1,a1⟩:=x
        obtain⟨o2,n2,v2,m2,l2,a2⟩:=z
        have hg:=xL_get'' _ _ _ _ _ _ _ hg
        rw[Ex.av_mk,Ex.av_mk] at hS
        rw[Ex.ds_mk] at hset2
        obtain⟨X,hX⟩:∃X,X=xL (mixX xs (subX M0) q):=⟨_,rfl⟩
        rw[<- hX] at hg hset2 hq1 hq2 ⊢
        repeat' first|refine st ?_|((with_reducible first|apply k_pn|apply k_pc);(·exact hS))|(with_reducible first|apply k_d|apply k_b)<;>intro _
        refine⟨q+1,rfl,rfl,?_,by omega,by omega⟩
        rw[show((q:Int)).toNat=q from Int.toNat_natCast q,hset2]
       |none=>
        have hge:=List.getElem?_eq_none_iff.1 hx
        have hqk:q=xs.length:=by omega
        subst hqk
        rw[mixX_end]
        repeat' first|refine st ?_|(with_reducible first|apply k_d|apply k_b)<;>intro _
        exact⟨rfl,rfl⟩
theorem C.drop4_lift(T0 T1 T2 T3 T4 T7:AO)(nm:List UInt8)(es:List (List D))(hm:∀e∈es,e.length=3)(i:Nat)(hi:i<es.length)(hel:es.length<=1048576)(ks:List Int)(hkb:∀k∈ks,0<=k/\k<=1048576)(hkl:ks.length<=1048576)(kn:Bool)(hkn:kn=true->ks=[])(xs:List Ex)(hxl:xs.length<=1048576)(hxb:∀e∈xs,e.bk<=1048576)(xn:Bool)(hxn:xn=true->xs=[])(c0:List Int)(b0:Bool)(t0:List UInt8)(hc0:c0.length<=1048576)(hcb0:∀k∈c0,0<=k/\k<=1048576)(hn0:b0=true->c0=[])(c1:List Int)(b1:Bool)(t1:List UInt8)(hc1:c1.length<=1048576)(hcb1:∀k∈c1,0<=k/\k<=1048576)(hn1:b1=true->c1=[])(c2:List Int)(b2:Bool)(t2:List UInt8)(hc2:c2.length<=1048576)(hcb2:∀k∈c2,0<=k/\k<=1048576)(hn2:b2=true->c2=[])(c3:List Int)(b3:Bool)(t3:List UInt8)(hc3:c3.length<=1048576)(hcb3:∀k∈c3,0<=k/\k<=1048576)(hn3:b3=true->c3=[]) :
  CallSpec Tryz.prog N.evolve_drop [.ptr 14 0,.d (eI i)] [T0,T1,T2,T3,T4,.arr es 3 0 false,.arr (eIs ks) 1 0 kn,T7,.rarr [[.arr 10 (eIs c0).length,.d (.str t0)],[.arr 11 (eIs c1).length,.d (.str t1)],[.arr 12 (eIs c2).length,.d (.str t2)],[.arr 13 (eIs c3).length,.d (.str t3)]] 2 false,.arr (xL xs) 7 0 xn,.arr (eIs c0) 1 0 b0,.arr (eIs c1) 1 0 b1,.arr (eIs c2) 1 0 b2,.arr (eIs c3) 1 0 b3,.cells [.d (.str nm),.arr 5 es.length,.arr 6 (eIs ks).length,.rs 8 4,.arr 9 (xL xs).length]]
   (λr os=>r=.tup []/\os=[T0,T1,T2,T3,T4,.arr (es.eraseIdx i++[zRow]) 3 (es.length-1) false,.arr (eIs (ks.map λc=>belowI c i)) 1 0 kn,T7,.rarr [[.arr 10 (eIs c0).length,.d (.str t0)],[.arr 11 (eIs c1).length,.d (.str t1)],[.arr 12 (eIs c2).length,.d (.str t2)],[.arr 13 (eIs c3).length,.d (.str t3)]] 2 false,.arr (xL (xs.map (subX (mvL es.length i)))) 7 0 xn,.arr (eIs (c0.map λc=>belowI c i)) 1 0 b0,.arr (eIs (c1.map λc=>belowI c i)) 1 0 b1,.arr (eIs (c2.map λc=>belowI c i)) 1 0 b2,.arr (eIs (c3.map λc=>belowI c i)) 1 0 b3,.cells [.d (.str nm),.d (.sl (es.eraseIdx i)),.arr 6 (eIs ks).length,.rs 8 4,.arr 9 (xL xs).length]]):=by
 have:=CallSpec.frame (K:=λr os=>r=.tup []/\os=[T0,T1,T2,T3,T4,.arr (es.eraseIdx i++[zRow]) 3 (es.length-1) false,.arr (eIs (ks.map λc=>belowI c i)) 1 0 kn,T7,.rarr [[.arr 10 (eIs c0).length,.d (.str t0)],[.arr 11 (eIs c1).length,.d (.str t1)],[.arr 12 (eIs c2).length,.d (.str t2)],[.arr 13 (eIs c3).length,.d (.str t3)]] 2 false,.arr (xL (xs.map (subX (mvL es.length i)))) 7 0 xn,.arr (eIs (c0.map λc=>belowI c i)) 1 0 b0,.arr (eIs (c1.map λc=>belowI c i)) 1 0 b1,.arr (eIs (c2.map λc=>belowI c i)) 1 0 b2,.arr (eIs (c3.map λc=>belowI c i)) 1 0 b3,.cells [.d (.str nm),.d (.sl (es.eraseIdx i)),.arr 6 (eIs ks).length,.rs 8 4,.arr 9 (xL xs).length]]) (C.drop4 nm es hm i hi hel ks hkb hkl kn hkn xs hxl hxb xn hxn c0 b0 t0 hc0 hcb0 hn0 c1 b1 t1 hc1 hcb1 hn1 c2 b2 t2 hc2 hcb2 hn2 c3 b3 t3 hc3 hcb3 hn3) [14,5,6,8,9,10,11,12,13]
  [T0,T1,T2,T3,T4,.arr es 3 0 false,.arr (eIs ks) 1 0 kn,T7,.rarr [[.arr 10 (eIs c0).length,.d (.str t0)],[.arr 11 (eIs c1).length,.d (.str t1)],[.arr 12 (eIs c2).length,.d (.str t2)],[.arr 13 (eIs c3).length,.d (.str t3)]] 2 false,.arr (xL xs) 7 0 xn,.arr (eIs c0) 1 0 b0,.arr (eIs c1) 1 0 b1,.arr (eIs c2) 1 0 b2,.arr (eIs c3) 1 0 b3,.cells [.d (.str nm),.arr 5 es.length,.arr 6 (eIs ks).length,.rs 8 4,.arr 9 (xL xs).length]] rfl (by decide) (λi o h=>by
   match i,h with
   |0,h=>cases h;rfl
   |1,h=>cases h;rfl
   |2,h=>cases h;rfl
   |3,h=>cases h;rfl
   |4,h=>cases h;rfl
   |5,h=>cases h;rfl
   |6,h=>cases h;rfl
   |7,h=>cases h;rfl
   |8,h=>cases h;rfl
   |i+9,h=>simp at h) (λa ha=>by
    simp only[List.mem_cons,List.not_mem_nil,or_false] at ha
    rcases ha with rfl|rfl<;>simp[AV.bnd2,AV.bnd1]) (λo ho=>by
    simp only[List.mem_cons,List.not_mem_nil,or_false] at ho
    rcases ho with rfl|rfl|rfl|rfl|rfl|rfl|rfl|rfl|rfl
    ·exact bndo_of rfl
    ·exact bndo_of rfl
    ·exact bndo_of rfl
    ·exact bndo_of rfl
    ·exact bndo_of rfl
    ·exact bndo_of rfl
    ·exact bndo_of rfl
    ·exact bndo_of rfl
    ·exact bndo_of rfl
    ) (by
   rintro r bs' ⟨rfl,rfl⟩
   exact⟨rfl,rfl⟩)
 exact this
end Go.Proofs
end
section
set_option maxHeartbeats 8000000
namespace Go.Proofs
open Go.Bi
theorem C.app4_add(t:Tb)(dc dk df dx:D)(h:Tok t dc dk df dx)(c:Ch)(hc:Cok c)(hq:evoE t c=0)(g0 g1 g2 g3:Fo)(hfs:t.fs=[g0,g1,g2,g3])(hk:c.k=1) :
  Pure Tryz.prog N.evolve_Apply [eT t.nm dc dk df dx,c.av] (.tup [eT t.nm (.sl (eCs (t.cs++[c.co]))) (slD (isN dk) (eIs t.ks)) (dF t.fs) (slD (xL (t.xs.map (shf 0))).isEmpty (xL (t.xs.map (shf 0)))),.d (eI 0)]):=by
 have hC:=C.evolve_Check t dc dk df dx h c hc
 rw[hq] at hC
 have hF:=C.schema_Find t.nm t.cs h.hl dc dk df dx h.dc c.nm
 have hl:=h.hl
 have hdf:=h.df
 have hfc:=h.hfc
 rw[hfs] at hdf hfc
 have hdf2:df=.sl (eFi [⟨g0.d,eIs g0.cs,isN g0.d,g0.tb⟩,⟨g1.d,eIs g1.cs,isN g1.d,g1.tb⟩,⟨g2.d,eIs g2.cs,isN g2.d,g2.tb⟩,⟨g3.d,eIs g3.cs,isN g3.d,g3.tb⟩]):=by
  rcases hdf with ⟨_,h2⟩|h2
  ·cases h2
  ·exact h2
 have hf0:(Fi.mk g0.d (eIs g0.cs) (isN g0.d) g0.tb).ok:=C.cloneI _ (by rw[eIs_len];have:=(hfc g0 (by simp)).1;omega) (eIs_mem _) g0.d g0.sld
 have hf1:(Fi.mk g1.d (eIs g1.cs) (isN g1.d) g1.tb).ok:=C.cloneI _ (by rw[eIs_len];have:=(hfc g1 (by simp)).1;omega) (eIs_mem _) g1.d g1.sld
 have hf2:(Fi.mk g2.d (eIs g2.cs) (isN g2.d) g2.tb).ok:=C.cloneI _ (by rw[eIs_len];have:=(hfc g2 (by simp)).1;omega) (eIs_mem _) g2.d g2.sld
 have hf3:(Fi.mk g3.d (eIs g3.cs) (isN g3.d) g3.tb).ok:=C.cloneI _ (by rw[eIs_len];have:=(hfc g3 (by simp)).1;omega) (eIs_mem _) g3.d g3.sld
 have hK:=C.clone4 t.nm dc dk df dx (eCs t.cs) (eIs t.ks) (isN dc) (isN dk) (C.cloneC _ (by rw[eCs_len];omega) (eCs_mem _) dc h.dc) (C.cloneI _ (by rw[eIs_len];have:=h.hk;omega) (eIs_mem _) dk h.dk) _ _ _ _ hf0 hf1 hf2 hf3 hdf2 t.xs h.hxb h.hxs h.dx
 have hcl:=eCs_len t.cs
 have q0:g0.d=slD (isN g0.d) (eIs g0.cs):=(slD_isN g0.sld).symm
 have q1:g1.d=slD (isN g1.d) (eIs g1.cs):=(slD_isN g1.sld).symm
 have q2:g2.d=slD (isN g2.d) (eIs g2.cs):=(slD_isN g2.sld).symm
 have q3:g3.d=slD (isN g3.d) (eIs g3.cs):=(slD_isN g3.sld).symm
 have e1:eCs (t.cs++[c.co])=eCs t.cs++[c.co.ds]:=by simp[eCs]
 rw[e1]
 obtain⟨k,nm,to,⟨cn,ck,cl⟩,⟨vk,vn,vs⟩⟩:=c
 dsimp only at hk
 subst hk
 obtain⟨f,hf⟩:∃f,f=findC nm t.cs:=⟨_,rfl⟩
 have hF:Bi.Pure Tryz.prog N.schema_Find [eT t.nm dc dk df dx,.d (.str nm)] (.d (eI f)):=by rw[hf];exact hF
 rw[show dF t.fs=slD false (eFs [g0,g1,g2,g3]) by rw[hfs];rfl]
 generalize eCs t.cs=Cs at hK hcl q0 q1 q2 q3 ⊢
 generalize eIs t.ks=Ks at hK hcl q0 q1 q2 q3 ⊢
 generalize xL (t.xs.map (shf 0))=Xs at hK hcl q0 q1 q2 q3 ⊢
 generalize isN dk=b2 at hK hcl q0 q1 q2 q3 ⊢
 generalize isN dc=b1 at hK hcl q0 q1 q2 q3 ⊢
 generalize eIs g0.cs=G0 at hK hcl q0 q1 q2 q3 ⊢
 generalize isN g0.d=n0 at hK hcl q0 q1 q2 q3 ⊢
 generalize eIs g1.cs=G1 at hK hcl q0 q1 q2 q3 ⊢
 generalize isN g1.d=n1 at hK hcl q0 q1 q2 q3 ⊢
 generalize eIs g2.cs=G2 at hK hcl q0 q1 q2 q3 ⊢
 generalize isN g2.d=n2 at hK hcl q0 q1 q2 q3 ⊢
 generalize eIs g3.cs=G3 at hK hcl q0 q1 q2 q3 ⊢
 generalize isN g3.d=n3 at hK hcl q0 q1 q2 q3 ⊢
 obtain⟨u0,hu0⟩:∃x,x=g0.tb:=⟨_,rfl⟩
 rw[<- hu0] at hK
 obtain⟨u1,hu1⟩:∃x,x=g1.tb:=⟨_,rfl⟩
 rw[<- hu1] at hK
 obtain⟨u2,hu2⟩:∃x,x=g2.tb:=⟨_,rfl⟩
 rw[<- hu2] at hK
 obtain⟨u3,hu3⟩:∃x,x=g3.tb:=⟨_,rfl⟩
 rw[<- hu3] at hK
 refine CallSpec.deepP (Q:=λr os=>r=.tup [.agg [.d (.str t.nm),.arr 5 (Cs++[[.str cn,eI ck,.bool cl]]).length,.arr 6 Ks.length,.rs 8 4,.arr 9 Xs.length],.d (eI 0)]/\os[5]?=some (.arr (Cs++[[.str cn,eI ck,.bool cl]]) 3 0 false)/\os[6]?=some (.arr Ks 1 0 b2)/\os[8]?=some (.rarr [[.arr 10 G0.length,.d (.str u0)],[.arr 11 G1.length,.d (.str u1)],[.arr 12 G2.length,.d (.str u2)],[.arr 13 G3.length,.d (.str u3)]] 2 false)/\os[9]?=some (.arr Xs 7 0 Xs.isEmpty)/\os[10]?=some (.arr G0 1 0 n0)/\os[11]?=some (.arr G1 1 0 n1)/\os[12]?=some (.arr G2 1 0 n2)/\os[13]?=some (.arr G3 1 0 n3)) ?_ ?_
 ·refine F.evolve_Apply.goO2 mixed rfl ?_
  repeat' first|refine st ?_|((with_reducible first|apply k_pn|apply k_pc);(·first|exact hC|exact hF))|((with_reducible first|apply k_nc|apply k_cs);(·exact hK);(try rintro _ _ ⟨rfl,rfl⟩))|((with_reducible apply k_pr);(·exact hK))|((with_reducible apply k_cal);refine st ?_;(with_reducible apply k_chk);(·exact rfl);refine st ?_;(with_reducible apply k_cs);(·exact hK);(try rintro _ _ ⟨rfl,rfl⟩))|(with_reducible first|apply k_d|apply k_b)<;>intro _
  exact⟨rfl,rfl,rfl,rfl,rfl,rfl,rfl,rfl,rfl⟩
 ·rintro r os ⟨rfl,hx0,hx1,hx2,hx3,hx4,hx5,hx6,hx7⟩
  refine da_tabF (rows:=[[.arr 10 G0.length,.d (.str u0)],[.arr 11 G1.length,.d (.str u1)],[.arr 12 G2.length,.d (.str u2)],[.arr 13 G3.length,.d (.str u3)]]) (fs:=[g0,g1,g2,g3]) (.inl (.inr ⟨5,_,3,0,false,rfl,hx0,rfl⟩)) hx1 hx2 hx3 rfl (λi e g he hg=>?_)
  match i,he,hg with
  |0,he,hg=>cases he;cases hg;exact⟨10,_,n0,by rw[hu0],hx4,q0⟩
  |1,he,hg=>cases he;cases hg;exact⟨11,_,n1,by rw[hu1],hx5,q1⟩
  |2,he,hg=>cases he;cases hg;exact⟨12,_,n2,by rw[hu2],hx6,q2⟩
  |3,he,hg=>cases he;cases hg;exact⟨13,_,n3,by rw[hu3],hx7,q3⟩
  |i+4,he,hg=>simp at he
theorem C.app4_ren(t:Tb)(dc dk df dx:D)(h:Tok t dc dk df dx)(c:Ch)(hc:Cok c)(hq:evoE t c=0)(g0 g1 g2 g3:Fo)(hfs:t.fs=[g0,g1,g2,g3])(hk:c.k=3)(i:Nat)(hi:findC c.nm t.cs=i)(co:Co)(hco:t.cs[i]?=some co)(hdc:dc=.sl (eCs t.cs)) :
  Pure Tryz.prog N.evolve_Apply [eT t.nm dc dk df dx,c.av] (.tup [eT t.nm (.sl (eCs (t.cs.set i ⟨c.to,co.k,co.nl⟩))) (slD (isN dk) (eIs t.ks)) (dF t.fs) (slD (xL (t.xs.map (shf 0))).isEmpty (xL (t.xs.map (shf 0)))),.d (eI 0)]):=by
 have hC:=C.evolve_Check t dc dk df dx h c hc
 rw[hq] at hC
 have hF:=C.schema_Find t.nm t.cs h.hl dc dk df dx h.dc c.nm
 have hl:=h.hl
 have hdf:=h.df
 have hfc:=h.hfc
 rw[hfs] at hdf hfc
 rw[hi] at hF
 have hdf2:df=.sl (eFi [⟨g0.d,eIs g0.cs,isN g0.d,g0.tb⟩,⟨g1.d,eIs g1.cs,isN g1.d,g1.tb⟩,⟨g2.d,eIs g2.cs,isN g2.d,g2.tb⟩,⟨g3.d,eIs g3.cs,isN g3.d,g3.tb⟩]):=by
  rcases hdf with ⟨_,h2⟩|h2
  ·cases h2
  ·exact h2
 have hf0:(Fi.mk g0.d (eIs g0.cs) (isN g0.d) g0.tb).ok:=C.cloneI _ (by rw[eIs_len];have:=(hfc g0 (by simp)).1;omega) (eIs_mem _) g0.d g0.sld
 have hf1:(Fi.mk g1.d (eIs g1.cs) (isN g1.d) g1.tb).ok:=C.cloneI _ (by rw[eIs_len];have:=(hfc g1 (by simp)).1;omega) (eIs_mem _) g1.d g1.sld
 have hf2:(Fi.mk g2.d (eIs g2.cs) (isN g2.d) g2.tb).ok:=C.cloneI _ (by rw[eIs_len];have:=(hfc g2 (by simp)).1;omega) (eIs_mem _) g2.d g2.sld
 have hf3:(Fi.mk g3.d (eIs g3.cs) (isN g3.d) g3.tb).ok:=C.cloneI _ (by rw[eIs_len];have:=(hfc g3 (by simp)).1;omega) (eIs_mem _) g3.d g3.sld
 have hK:=C.clone4 t.nm dc dk df dx (eCs t.cs) (eIs t.ks) (isN dc) (isN dk) (C.cloneC _ (by rw[eCs_len];omega) (eCs_mem _) dc h.dc) (C.cloneI _ (by rw[eIs_len];have:=h.hk;omega) (eIs_mem _) dk h.dk) _ _ _ _ hf0 hf1 hf2 hf3 hdf2 t.xs h.hxb h.hxs h.dx
 have hcl:=eCs_len t.cs
 rw[show isN dc=false by rw[hdc];rfl] at hK
 have q0:g0.d=slD (isN g0.d) (eIs g0.cs):=(slD_isN g0.sld).symm
 have q1:g1.d=slD (isN g1.d) (eIs g1.cs):=(slD_isN g1.sld).symm
 have q2:g2.d=slD (isN g2.d) (eIs g2.cs):=(slD_isN g2.sld).symm
 have q3:g3.d=slD (isN g3.d) (eIs g3.cs):=(slD_isN g3.sld).symm
 have hg:(eCs t.cs)[((i:Nat):Int).toNat]?=some [.str co.nm,eI co.k,.bool co.nl]:=eCs_get hco
 have hg2:(eCs t.cs)[i]?=some [.str co.nm,eI co.k,.bool co.nl]:=eCs_get hco
 have hmm:=eCs_mem t.cs
 have hilt:i<(eCs t.cs).length:=by rw[hcl];exact(List.getElem?_eq_some_iff.1 hco).1
 have e1:eCs (t.cs.set i ⟨c.to,co.k,co.nl⟩)=(eCs t.cs).set i [.str c.to,eI co.k,.bool co.nl]:=by unfold eCs;rw[List.map_set]
 rw[e1]
 obtain⟨k,nm,to,⟨cn,ck,cl⟩,⟨vk,vn,vs⟩⟩:=c
 dsimp only at hk
 subst hk
 have hF:Bi.Pure Tryz.prog N.schema_Find [eT t.nm dc dk df dx,.d (.str nm)] (.d (eI i)):=hF
 rw[show dF t.fs=slD false (eFs [g0,g1,g2,g3]) by rw[hfs];rfl]
 generalize eCs t.cs=Cs at hK hcl hg hg2 hmm hilt q0 q1 q2 q3 ⊢
 generalize eIs t.ks=Ks at hK hcl hg hg2 hmm hilt q0 q1 q2 q3 ⊢
 generalize xL (t.xs.map (shf 0))=Xs at hK hcl hg hg2 hmm hilt q0 q1 q2 q3 ⊢
 generalize isN dk=b2 at hK hcl hg hg2 hmm hilt q0 q1 q2 q3 ⊢
 generalize eIs g0.cs=G0 at hK hcl hg hg2 hmm hilt q0 q1 q2 q3 ⊢
 generalize isN g0.d=n0 at hK hcl hg hg2 hmm hilt q0 q1 q2 q3 ⊢
 generalize eIs g1.cs=G1 at hK hcl hg hg2 hmm hilt q0 q1 q2 q3 ⊢
 generalize isN g1.d=n1 at hK hcl hg hg2 hmm hilt q0 q1 q2 q3 ⊢
 generalize eIs g2.cs=G2 at hK hcl hg hg2 hmm hilt q0 q1 q2 q3 ⊢
 generalize isN g2.d=n2 at hK hcl hg hg2 hmm hilt q0 q1 q2 q3 ⊢
 generalize eIs g3.cs=G3 at hK hcl hg hg2 hmm hilt q0 q1 q2 q3 ⊢
 generalize isN g3.d=n3 at hK hcl hg hg2 hmm hilt q0 q1 q2 q3 ⊢
 obtain⟨u0,hu0⟩:∃x,x=g0.tb:=⟨_,rfl⟩
 rw[<- hu0] at hK
 obtain⟨u1,hu1⟩:∃x,x=g1.tb:=⟨_,rfl⟩
 rw[<- hu1] at hK
 obtain⟨u2,hu2⟩:∃x,x=g2.tb:=⟨_,rfl⟩
 rw[<- hu2] at hK
 obtain⟨u3,hu3⟩:∃x,x=g3.tb:=⟨_,rfl⟩
 rw[<- hu3] at hK
 refine CallSpec.deepP (Q:=λr os=>r=.tup [.agg [.d (.str t.nm),.arr 5 (Cs.set i [.str to,eI co.k,.bool co.nl]).length,.arr 6 Ks.length,.rs 8 4,.arr 9 Xs.length],.d (eI 0)]/\os[5]?=some (.arr (Cs.set i [.str to,eI co.k,.bool co.nl]) 3 0 false)/\os[6]?=some (.arr Ks 1 0 b2)/\os[8]?=some (.rarr [[.arr 10 G0.length,.d (.str u0)],[.arr 11 G1.length,.d (.str u1)],[.arr 12 G2.length,.d (.str u2)],[.arr 13 G3.length,.d (.str u3)]] 2 false)/\os[9]?=some (.arr Xs 7 0 Xs.isEmpty)/\os[10]?=some (.arr G0 1 0 n0)/\os[11]?=some (.arr G1 1 0 n1)/\os[12]?=some (.arr G2 1 0 n2)/\os[13]?=some (.arr G3 1 0 n3)) ?_ ?_
 ·refine F.evolve_Apply.goO2 mixed rfl ?_
  rw[List.length_set]
  repeat' first|refine st ?_|((with_reducible first|apply k_pn|apply k_pc);(·first|exact hC|exact hF))|((with_reducible first|apply k_nc|apply k_cs);(·exact hK);(try rintro _ _ ⟨rfl,rfl⟩))|((with_reducible apply k_pr);(·exact hK))|((with_reducible apply k_cal);refine st ?_;(with_reducible apply k_chk);(·exact rfl);refine st ?_;(with_reducible apply k_cs);(·exact hK);(try rintro _ _ ⟨rfl,rfl⟩))|(with_reducible first|apply k_d|apply k_b)<;>intro _
  exact⟨rfl,rfl,rfl,rfl,rfl,rfl,rfl,rfl,rfl⟩
 ·rintro r os ⟨rfl,hx0,hx1,hx2,hx3,hx4,hx5,hx6,hx7⟩
  refine da_tabF (rows:=[[.arr 10 G0.length,.d (.str u0)],[.arr 11 G1.length,.d (.str u1)],[.arr 12 G2.length,.d (.str u2)],[.arr 13 G3.length,.d (.str u3)]]) (fs:=[g0,g1,g2,g3]) (.inl (.inr ⟨5,_,3,0,false,rfl,hx0,rfl⟩)) hx1 hx2 hx3 rfl (λi e g he hg=>?_)
  match i,he,hg with
  |0,he,hg=>cases he;cases hg;exact⟨10,_,n0,by rw[hu0],hx4,q0⟩
  |1,he,hg=>cases he;cases hg;exact⟨11,_,n1,by rw[hu1],hx5,q1⟩
  |2,he,hg=>cases he;cases hg;exact⟨12,_,n2,by rw[hu2],hx6,q2⟩
  |3,he,hg=>cases he;cases hg;exact⟨13,_,n3,by rw[hu3],hx7,q3⟩
  |i+4,he,hg=>simp at he
theorem C.app4_txt(t:Tb)(dc dk df dx:D)(h:Tok t dc dk df dx)(c:Ch)(hc:Cok c)(hq:evoE t c=0)(g0 g1 g2 g3:Fo)(hfs:t.fs=[g0,g1,g2,g3])(hk:c.k=4)(i:Nat)(hi:findC c.nm t.cs=i)(co:Co)(hco:t.cs[i]?=some co)(hdc:dc=.sl (eCs t.cs)) :
  Pure Tryz.prog N.evolve_Apply [eT t.nm dc dk df dx,c.av] (.tup [eT t.nm (.sl (eCs (t.cs.set i ⟨co.nm,2,co.nl⟩))) (slD (isN dk) (eIs t.ks)) (dF t.fs) (slD (xL (t.xs.map (shf 0))).isEmpty (xL (t.xs.map (shf 0)))),.d (eI 0)]):=by
 have hC:=C.evolve_Check t dc dk df dx h c hc
 rw[hq] at hC
 have hF:=C.schema_Find t.nm t.cs h.hl dc dk df dx h.dc c.nm
 have hl:=h.hl
 have hdf:=h.df
 have hfc:=h.hfc
 rw[hfs] at hdf hfc
 rw[hi] at hF
 have hdf2:df=.sl (eFi [⟨g0.d,eIs g0.cs,isN g0.d,g0.tb⟩,⟨g1.d,eIs g1.cs,isN g1.d,g1.tb⟩,⟨g2.d,eIs g2.cs,isN g2.d,g2.tb⟩,⟨g3.d,eIs g3.cs,isN g3.d,g3.tb⟩]):=by
  rcases hdf with ⟨_,h2⟩|h2
  ·cases h2
  ·exact h2
 have hf0:(Fi.mk g0.d (eIs g0.cs) (isN g0.d) g0.tb).ok:=C.cloneI _ (by rw[eIs_len];have:=(hfc g0 (by simp)).1;omega) (eIs_mem _) g0.d g0.sld
 have hf1:(Fi.mk g1.d (eIs g1.cs) (isN g1.d) g1.tb).ok:=C.cloneI _ (by rw[eIs_len];have:=(hfc g1 (by simp)).1;omega) (eIs_mem _) g1.d g1.sld
 have hf2:(Fi.mk g2.d (eIs g2.cs) (isN g2.d) g2.tb).ok:=C.cloneI _ (by rw[eIs_len];have:=(hfc g2 (by simp)).1;omega) (eIs_mem _) g2.d g2.sld
 have hf3:(Fi.mk g3.d (eIs g3.cs) (isN g3.d) g3.tb).ok:=C.cloneI _ (by rw[eIs_len];have:=(hfc g3 (by simp)).1;omega) (eIs_mem _) g3.d g3.sld
 have hK:=C.clone4 t.nm dc dk df dx (eCs t.cs) (eIs t.ks) (isN dc) (isN dk) (C.cloneC _ (by rw[eCs_len];omega) (eCs_mem _) dc h.dc) (C.cloneI _ (by rw[eIs_len];have:=h.hk;omega) (eIs_mem _) dk h.dk) _ _ _ _ hf0 hf1 hf2 hf3 hdf2 t.xs h.hxb h.hxs h.dx
 have hcl:=eCs_len t.cs
 rw[show isN dc=false by rw[hdc];rfl] at hK
 have q0:g0.d=slD (isN g0.d) (eIs g0.cs):=(slD_isN g0.sld).symm
 have q1:g1.d=slD (isN g1.d) (eIs g1.cs):=(slD_isN g1.sld).symm
 have q2:g2.d=slD (isN g2.d) (eIs g2.cs):=(slD_isN g2.sld).symm
 have q3:g3.d=slD (isN g3.d) (eIs g3.cs):=(slD_isN g3.sld).symm
 have hg:(eCs t.cs)[((i:Nat):Int).toNat]?=some [.str co.nm,eI co.k,.bool co.nl]:=eCs_get hco
 have hg2:(eCs t.cs)[i]?=some [.str co.nm,eI co.k,.bool co.nl]:=eCs_get hco
 have hmm:=eCs_mem t.cs
 have hilt:i<(eCs t.cs).length:=by rw[hcl];exact(List.getElem?_eq_some_iff.1 hco).1
 have e1:eCs (t.cs.set i ⟨co.nm,2,co.nl⟩)=(eCs t.cs).set i [.str co.nm,eI 2,.bool co.nl]:=by unfold eCs;rw[List.map_set]
 rw[e1]
 obtain⟨k,nm,to,⟨cn,ck,cl⟩,⟨vk,vn,vs⟩⟩:=c
 dsimp only at hk
 subst hk
 have hF:Bi.Pure Tryz.prog N.schema_Find [eT t.nm dc dk df dx,.d (.str nm)] (.d (eI i)):=hF
 rw[show dF t.fs=slD false (eFs [g0,g1,g2,g3]) by rw[hfs];rfl]
 generalize eCs t.cs=Cs at hK hcl hg hg2 hmm hilt q0 q1 q2 q3 ⊢
 generalize eIs t.ks=Ks at hK hcl hg hg2 hmm hilt q0 q1 q2 q3 ⊢
 generalize xL (t.xs.map (shf 0))=Xs at hK hcl hg hg2 hmm hilt q0 q1 q2 q3 ⊢
 generalize isN dk=b2 at hK hcl hg hg2 hmm hilt q0 q1 q2 q3 ⊢
 generalize eIs g0.cs=G0 at hK hcl hg hg2 hmm hilt q0 q1 q2 q3 ⊢
 generalize isN g0.d=n0 at hK hcl hg hg2 hmm hilt q0 q1 q2 q3 ⊢
 generalize eIs g1.cs=G1 at hK hcl hg hg2 hmm hilt q0 q1 q2 q3 ⊢
 generalize isN g1.d=n1 at hK hcl hg hg2 hmm hilt q0 q1 q2 q3 ⊢
 generalize eIs g2.cs=G2 at hK hcl hg hg2 hmm hilt q0 q1 q2 q3 ⊢
 generalize isN g2.d=n2 at hK hcl hg hg2 hmm hilt q0 q1 q2 q3 ⊢
 generalize eIs g3.cs=G3 at hK hcl hg hg2 hmm hilt q0 q1 q2 q3 ⊢
 generalize isN g3.d=n3 at hK hcl hg hg2 hmm hilt q0 q1 q2 q3 ⊢
 obtain⟨u0,hu0⟩:∃x,x=g0.tb:=⟨_,rfl⟩
 rw[<- hu0] at hK
 obtain⟨u1,hu1⟩:∃x,x=g1.tb:=⟨_,rfl⟩
 rw[<- hu1] at hK
 obtain⟨u2,hu2⟩:∃x,x=g2.tb:=⟨_,rfl⟩
 rw[<- hu2] at hK
 obtain⟨u3,hu3⟩:∃x,x=g3.tb:=⟨_,rfl⟩
 rw[<- hu3] at hK
 refine CallSpec.deepP (Q:=λr os=>r=.tup [.agg [.d (.str t.nm),.arr 5 (Cs.set i [.str co.nm,eI 2,.bool co.nl]).length,.arr 6 Ks.length,.rs 8 4,.arr 9 Xs.length],.d (eI 0)]/\os[5]?=some (.arr (Cs.set i [.str co.nm,eI 2,.bool co.nl]) 3 0 false)/\os[6]?=some (.arr Ks 1 0 b2)/\os[8]?=some (.rarr [[.arr 10 G0.length,.d (.str u0)],[.arr 11 G1.length,.d (.str u1)],[.arr 12 G2.length,.d (.str u2)],[.arr 13 G3.length,.d (.str u3)]] 2 false)/\os[9]?=some (.arr Xs 7 0 Xs.isEmpty)/\os[10]?=some (.arr G0 1 0 n0)/\os[11]?=some (.arr G1 1 0 n1)/\os[12]?=some (.arr G2 1 0 n2)/\os[13]?=some (.arr G3 1 0 n3)) ?_ ?_
 ·refine F.evolve_Apply.goO2 mixed rfl ?_
  rw[List.length_set]
  repeat' first|refine st ?_|((with_reducible first|apply k_pn|apply k_pc);(·first|exact hC|exact hF))|((with_reducible first|apply k_nc|apply k_cs);(·exact hK);(try rintro _ _ ⟨rfl,rfl⟩))|((with_reducible apply k_pr);(·exact hK))|((with_reducible apply k_cal);refine st ?_;(with_reducible apply k_chk);(·exact rfl);refine st ?_;(with_reducible apply k_cs);(·exact hK);(try rintro _ _ ⟨rfl,rfl⟩))|(with_reducible first|apply k_d|apply k_b)<;>intro _
  exact⟨rfl,rfl,rfl,rfl,rfl,rfl,rfl,rfl,rfl⟩
 ·rintro r os ⟨rfl,hx0,hx1,hx2,hx3,hx4,hx5,hx6,hx7⟩
  refine da_tabF (rows:=[[.arr 10 G0.length,.d (.str u0)],[.arr 11 G1.length,.d (.str u1)],[.arr 12 G2.length,.d (.str u2)],[.arr 13 G3.length,.d (.str u3)]]) (fs:=[g0,g1,g2,g3]) (.inl (.inr ⟨5,_,3,0,false,rfl,hx0,rfl⟩)) hx1 hx2 hx3 rfl (λi e g he hg=>?_)
  match i,he,hg with
  |0,he,hg=>cases he;cases hg;exact⟨10,_,n0,by rw[hu0],hx4,q0⟩
  |1,he,hg=>cases he;cases hg;exact⟨11,_,n1,by rw[hu1],hx5,q1⟩
  |2,he,hg=>cases he;cases hg;exact⟨12,_,n2,by rw[hu2],hx6,q2⟩
  |3,he,hg=>cases he;cases hg;exact⟨13,_,n3,by rw[hu3],hx7,q3⟩
  |i+4,he,hg=>simp at he
theorem C.app4_drp(t:Tb)(dc dk df dx:D)(h:Tok t dc dk df dx)(c:Ch)(hc:Cok c)(hq:evoE t c=0)(g0 g1 g2 g3:Fo)(hfs:t.fs=[g0,g1,g2,g3])(hk:c.k=2)(i:Nat)(hi:findC c.nm t.cs=i)(hil:i<t.cs.length)(hdc:dc=.sl (eCs t.cs))(hkb:∀k∈t.ks,0<=k/\k<=1048576)(hfb:∀g∈t.fs,∀k∈g.cs,0<=k/\k<=1048576)(hxb:∀e∈t.xs.map (shf 0),e.bk<=1048576) :
  Pure Tryz.prog N.evolve_Apply [eT t.nm dc dk df dx,c.av] (.tup [eT t.nm (.sl (eCs (t.cs.eraseIdx i))) (slD (isN dk) (eIs (t.ks.map λc=>belowI c i))) (dF (t.fs.map (blF i))) (slD (xL (t.xs.map (shf 0))).isEmpty (xL ((t.xs.map (shf 0)).map (subX (mvL t.cs.length i))))),.d (eI 0)]):=by
 have hC:=C.evolve_Check t dc dk df dx h c hc
 rw[hq] at hC
 have hF:=C.schema_Find t.nm t.cs h.hl dc dk df dx h.dc c.nm
 have hl:=h.hl
 have hdf:=h.df
 have hfc:=h.hfc
 rw[hfs] at hdf hfc
 rw[hi] at hF
 have hdf2:df=.sl (eFi [⟨g0.d,eIs g0.cs,isN g0.d,g0.tb⟩,⟨g1.d,eIs g1.cs,isN g1.d,g1.tb⟩,⟨g2.d,eIs g2.cs,isN g2.d,g2.tb⟩,⟨g3.d,eIs g3.cs,isN g3.d,g3.tb⟩]):=by
  rcases hdf with ⟨_,h2⟩|h2
  ·cases h2
  ·exact h2
 have hf0:(Fi.mk g0.d (eIs g0.cs) (isN g0.d) g0.tb).ok:=C.cloneI _ (by rw[eIs_len];have:=(hfc g0 (by simp)).1;omega) (eIs_mem _) g0.d g0.sld
 have hf1:(Fi.mk g1.d (eIs g1.cs) (isN g1.d) g1.tb).ok:=C.cloneI _ (by rw[eIs_len];have:=(hfc g1 (by simp)).1;omega) (eIs_mem _) g1.d g1.sld
 have hf2:(Fi.mk g2.d (eIs g2.cs) (isN g2.d) g2.tb).ok:=C.cloneI _ (by rw[eIs_len];have:=(hfc g2 (by simp)).1;omega) (eIs_mem _) g2.d g2.sld
 have hf3:(Fi.mk g3.d (eIs g3.cs) (isN g3.d) g3.tb).ok:=C.cloneI _ (by rw[eIs_len];have:=(hfc g3 (by simp)).1;omega) (eIs_mem _) g3.d g3.sld
 have hK:=C.clone4 t.nm dc dk df dx (eCs t.cs) (eIs t.ks) (isN dc) (isN dk) (C.cloneC _ (by rw[eCs_len];omega) (eCs_mem _) dc h.dc) (C.cloneI _ (by rw[eIs_len];have:=h.hk;omega) (eIs_mem _) dk h.dk) _ _ _ _ hf0 hf1 hf2 hf3 hdf2 t.xs h.hxb h.hxs h.dx
 have hcl:=eCs_len t.cs
 rw[show isN dc=false by rw[hdc];rfl] at hK
 have hkN:isN dk=true->t.ks=[]:=λhh=>by
  have:=isN_nil h.dk hh
  cases hks:t.ks with
  |nil=>rfl
  |cons a l=>rw[hks] at this;cases this
 have hxN:(xL (t.xs.map (shf 0))).isEmpty=true->t.xs.map (shf 0)=[]:=by
  intro hh
  cases hx:t.xs.map (shf 0) with
  |nil=>rfl
  |cons a l=>rw[hx] at hh;cases hh
 have hN0:isN g0.d=true->g0.cs=[]:=λhh=>by
  have:=isN_nil g0.sld hh
  cases hks:g0.cs with
  |nil=>rfl
  |cons a l=>rw[hks] at this;cases this
 have hB0:=hfb g0 (by rw[hfs];simp)
 have hN1:isN g1.d=true->g1.cs=[]:=λhh=>by
  have:=isN_nil g1.sld hh
  cases hks:g1.cs with
  |nil=>rfl
  |cons a l=>rw[hks] at this;cases this
 have hB1:=hfb g1 (by rw[hfs];simp)
 have hN2:isN g2.d=true->g2.cs=[]:=λhh=>by
  have:=isN_nil g2.sld hh
  cases hks:g2.cs with
  |nil=>rfl
  |cons a l=>rw[hks] at this;cases this
 have hB2:=hfb g2 (by rw[hfs];simp)
 have hN3:isN g3.d=true->g3.cs=[]:=λhh=>by
  have:=isN_nil g3.sld hh
  cases hks:g3.cs with
  |nil=>rfl
  |cons a l=>rw[hks] at this;cases this
 have hB3:=hfb g3 (by rw[hfs];simp)
 have hD:=λT0 T1 T2 T3 T4 T7=>C.drop4_lift T0 T1 T2 T3 T4 T7 t.nm (eCs t.cs) (eCs_mem _) i (by rw[hcl];exact hil) (by rw[hcl];exact hl) t.ks hkb h.hk (isN dk) hkN (t.xs.map (shf 0)) (by rw[List.length_map];exact h.hxs) hxb _ hxN g0.cs (isN g0.d) g0.tb (hfc g0 (by simp)).1 hB0 hN0 g1.cs (isN g1.d) g1.tb (hfc g1 (by simp)).1 hB1 hN1 g2.cs (isN g2.d) g2.tb (hfc g2 (by simp)).1 hB2 hN2 g3.cs (isN g3.d) g3.tb (hfc g3 (by simp)).1 hB3 hN3
 rw[hcl] at hD
 have hkl2:(eIs (t.ks.map λc=>belowI c i)).length=(eIs t.ks).length:=by rw[eIs_len,eIs_len,List.length_map]
 have hxl2:(xL ((t.xs.map (shf 0)).map (subX (mvL t.cs.length i)))).length=(xL (t.xs.map (shf 0))).length:=by rw[xL_len,xL_len,List.length_map]
 have hkl20:(eIs (g0.cs.map λc=>belowI c i)).length=(eIs g0.cs).length:=by rw[eIs_len,eIs_len,List.length_map]
 have hkl21:(eIs (g1.cs.map λc=>belowI c i)).length=(eIs g1.cs).length:=by rw[eIs_len,eIs_len,List.length_map]
 have hkl22:(eIs (g2.cs.map λc=>belowI c i)).length=(eIs g2.cs).length:=by rw[eIs_len,eIs_len,List.length_map]
 have hkl23:(eIs (g3.cs.map λc=>belowI c i)).length=(eIs g3.cs).length:=by rw[eIs_len,eIs_len,List.length_map]
 have q0:(blF i g0).d=slD (isN g0.d) (eIs (g0.cs.map λc=>belowI c i)):=blF_d i g0
 have q1:(blF i g1).d=slD (isN g1.d) (eIs (g1.cs.map λc=>belowI c i)):=blF_d i g1
 have q2:(blF i g2).d=slD (isN g2.d) (eIs (g2.cs.map λc=>belowI c i)):=blF_d i g2
 have q3:(blF i g3).d=slD (isN g3.d) (eIs (g3.cs.map λc=>belowI c i)):=blF_d i g3
 have e1:eCs (t.cs.eraseIdx i)=(eCs t.cs).eraseIdx i:=eCs_erase _ _
 rw[e1]
 obtain⟨k,nm,to,⟨cn,ck,cl⟩,⟨vk,vn,vs⟩⟩:=c
 dsimp only at hk
 subst hk
 have hF:Bi.Pure Tryz.prog N.schema_Find [eT t.nm dc dk df dx,.d (.str nm)] (.d (eI i)):=hF
 rw[show dF (t.fs.map (blF i))=slD false (eFs [blF i g0,blF i g1,blF i g2,blF i g3]) by rw[hfs];rfl]
 rw[hcl] at hK
 generalize eIs (t.ks.map λc=>belowI c i)=K2 at hK hcl hkl2 hxl2 hkl20 hkl21 hkl22 hkl23 q0 q1 q2 q3 hD ⊢
 generalize xL ((t.xs.map (shf 0)).map (subX (mvL t.cs.length i)))=X2 at hK hcl hkl2 hxl2 hkl20 hkl21 hkl22 hkl23 q0 q1 q2 q3 hD ⊢
 generalize (eCs t.cs).eraseIdx i=E2 at hK hcl hkl2 hxl2 hkl20 hkl21 hkl22 hkl23 q0 q1 q2 q3 hD ⊢
 generalize eIs (g0.cs.map λc=>belowI c i)=H0 at hK hcl hkl2 hxl2 hkl20 hkl21 hkl22 hkl23 q0 q1 q2 q3 hD ⊢
 generalize eIs (g1.cs.map λc=>belowI c i)=H1 at hK hcl hkl2 hxl2 hkl20 hkl21 hkl22 hkl23 q0 q1 q2 q3 hD ⊢
 generalize eIs (g2.cs.map λc=>belowI c i)=H2 at hK hcl hkl2 hxl2 hkl20 hkl21 hkl22 hkl23 q0 q1 q2 q3 hD ⊢
 generalize eIs (g3.cs.map λc=>belowI c i)=H3 at hK hcl hkl2 hxl2 hkl20 hkl21 hkl22 hkl23 q0 q1 q2 q3 hD ⊢
 generalize eCs t.cs=Cs at hK hcl hkl2 hxl2 hkl20 hkl21 hkl22 hkl23 q0 q1 q2 q3 hD ⊢
 generalize eIs t.ks=Ks at hK hcl hkl2 hxl2 hkl20 hkl21 hkl22 hkl23 q0 q1 q2 q3 hD ⊢
 generalize xL (t.xs.map (shf 0))=Xs at hK hcl hkl2 hxl2 hkl20 hkl21 hkl22 hkl23 q0 q1 q2 q3 hD ⊢
 generalize isN dk=b2 at hK hcl hkl2 hxl2 hkl20 hkl21 hkl22 hkl23 q0 q1 q2 q3 hD ⊢
 generalize eIs g0.cs=G0 at hK hcl hkl2 hxl2 hkl20 hkl21 hkl22 hkl23 q0 q1 q2 q3 hD ⊢
 generalize isN g0.d=n0 at hK hcl hkl2 hxl2 hkl20 hkl21 hkl22 hkl23 q0 q1 q2 q3 hD ⊢
 generalize eIs g1.cs=G1 at hK hcl hkl2 hxl2 hkl20 hkl21 hkl22 hkl23 q0 q1 q2 q3 hD ⊢
 generalize isN g1.d=n1 at hK hcl hkl2 hxl2 hkl20 hkl21 hkl22 hkl23 q0 q1 q2 q3 hD ⊢
 generalize eIs g2.cs=G2 at hK hcl hkl2 hxl2 hkl20 hkl21 hkl22 hkl23 q0 q1 q2 q3 hD ⊢
 generalize isN g2.d=n2 at hK hcl hkl2 hxl2 hkl20 hkl21 hkl22 hkl23 q0 q1 q2 q3 hD ⊢
 generalize eIs g3.cs=G3 at hK hcl hkl2 hxl2 hkl20 hkl21 hkl22 hkl23 q0 q1 q2 q3 hD ⊢
 generalize isN g3.d=n3 at hK hcl hkl2 hxl2 hkl20 hkl21 hkl22 hkl23 q0 q1 q2 q3 hD ⊢
 obtain⟨u0,hu0⟩:∃x,x=g0.tb:=⟨_,rfl⟩
 rw[<- hu0] at hK
 simp only[<- hu0] at hD
 obtain⟨u1,hu1⟩:∃x,x=g1.tb:=⟨_,rfl⟩
 rw[<- hu1] at hK
 simp only[<- hu1] at hD
 obtain⟨u2,hu2⟩:∃x,x=g2.tb:=⟨_,rfl⟩
 rw[<- hu2] at hK
 simp only[<- hu2] at hD
 obtain⟨u3,hu3⟩:∃x,x=g3.tb:=⟨_,rfl⟩
 rw[<- hu3] at hK
 simp only[<- hu3] at hD
 refine CallSpec.deepP (Q:=λr os=>r=.tup [.agg [.d (.str t.nm),.d (.sl E2),.arr 6 K2.length,.rs 8 4,.arr 9 X2.length],.d (eI 0)]/\os[6]?=some (.arr K2 1 0 b2)/\os[8]?=some (.rarr [[.arr 10 H0.length,.d (.str u0)],[.arr 11 H1.length,.d (.str u1)],[.arr 12 H2.length,.d (.str u2)],[.arr 13 H3.length,.d (.str u3)]] 2 false)/\os[9]?=some (.arr X2 7 0 Xs.isEmpty)/\os[10]?=some (.arr H0 1 0 n0)/\os[11]?=some (.arr H1 1 0 n1)/\os[12]?=some (.arr H2 1 0 n2)/\os[13]?=some (.arr H3 1 0 n3)) ?_ ?_
 ·rw[hkl2,hxl2]
  rw[hkl20,hkl21,hkl22,hkl23]
  refine F.evolve_Apply.goO2 mixed rfl ?_
  repeat' first|refine st ?_|((with_reducible first|apply k_pn|apply k_pc);(·first|exact hC|exact hF))|((with_reducible first|apply k_nc|apply k_cs);(·first|exact hK|exact hD _ _ _ _ _ _);(try rintro _ _ ⟨rfl,rfl⟩))|((with_reducible apply k_pr);(·first|exact hK|exact hD _ _ _ _ _ _))|((with_reducible apply k_cal);refine st ?_;(with_reducible apply k_chk);(·exact rfl);refine st ?_;(with_reducible apply k_cs);(·first|exact hK|exact hD _ _ _ _ _ _);(try rintro _ _ ⟨rfl,rfl⟩))|(with_reducible first|apply k_d|apply k_b)<;>intro _
  exact⟨rfl,rfl,rfl,rfl,rfl,rfl,rfl,rfl⟩
 ·rintro r os ⟨rfl,hx0,hx1,hx2,hx3,hx4,hx5,hx6⟩
  refine da_tabF (rows:=[[.arr 10 H0.length,.d (.str u0)],[.arr 11 H1.length,.d (.str u1)],[.arr 12 H2.length,.d (.str u2)],[.arr 13 H3.length,.d (.str u3)]]) (fs:=[blF i g0,blF i g1,blF i g2,blF i g3]) (.inl (.inl rfl)) hx0 hx1 hx2 rfl (λi e g he hg=>?_)
  match i,he,hg with
  |0,he,hg=>cases he;cases hg;exact⟨10,_,n0,by rw[hu0];rfl,hx3,q0⟩
  |1,he,hg=>cases he;cases hg;exact⟨11,_,n1,by rw[hu1];rfl,hx4,q1⟩
  |2,he,hg=>cases he;cases hg;exact⟨12,_,n2,by rw[hu2];rfl,hx5,q2⟩
  |3,he,hg=>cases he;cases hg;exact⟨13,_,n3,by rw[hu3];rfl,hx6,q3⟩
  |i+4,he,hg=>simp at he
end Go.Proofs
end
section
namespace Go.Proofs
open Go.Bi
theorem getD_at{t:Tb}{i:Nat}{co:Co}(h:t.cs[i]?=some co):t.cs.getD i ⟨[],0,false⟩=co:=by
 rw[List.getD_eq_getElem?_getD,h];rfl
theorem evoT_tok{t:Tb}{dc dk df dx:D}(h:Tok t dc dk df dx){c:Ch}(hc:Cok c)(hv:Vd t)(b:Bool)(hb:b=true->t.xs=[]) :
  Tok (evoT t c) (.sl (eCs (evoT t c).cs)) (slD (isN dk) (eIs (evoT t c).ks)) (dF (evoT t c).fs) (slD b (xL (evoT t c).xs)):=by
 have hF:∀l:List Fo,SlD (dF l) (eFs l):=λl=>sld_slD λe=>by
  cases l with
  |nil=>rfl
  |cons a r=>cases e
 have hK:isN dk=true->t.ks=[]:=λe=>by
  have:=isN_nil h.dk e
  cases hks:t.ks with
  |nil=>rfl
  |cons a l=>rw[hks] at this;cases this
 have hl:=hv.l2
 have hkd:∀i,(t.cs.getD i ⟨[],0,false⟩).nm.length<=1048576:=λi=>by
  rw[List.getD_eq_getElem?_getD]
  cases hh:t.cs[i]? with
  |none=>simp
  |some x=>exact h.hls x (List.mem_of_getElem? hh)
 have hset:∀i (n:Co),n.nm.length<=1048576->∀x∈t.cs.set i n,x.nm.length<=1048576:=λi n hn x hx=>by
  rcases List.mem_or_eq_of_mem_set hx with hx|rfl
  ·exact h.hls x hx
  ·exact hn
 unfold evoT
 split
 ·refine⟨h.hn,by rw[List.length_append];simp;omega,λx hx=>?_,h.hk,h.hfl,h.hfc,by rw[List.length_map];exact h.hxs,λe he=>?_,sld_sl,sld_slD λe=>by rw[hK e];rfl,hF _,sld_slD λe=>by rw[hb e];rfl⟩
  ·rcases List.mem_append.1 hx with hx|hx
   ·exact h.hls x hx
   ·cases List.mem_singleton.1 hx;exact hc.cn
  ·obtain⟨a,ha,rfl⟩:=List.mem_map.1 he
   exact Nat.le_trans (cp_bk a) (h.hxb a ha)
 ·split
  ·refine⟨h.hn,Nat.le_trans (List.length_eraseIdx_le ..) (by omega),λx hx=>h.hls x (List.mem_of_mem_eraseIdx hx),by rw[List.length_map];exact h.hk,by rw[List.length_map];exact h.hfl,λf hf=>?_,by rw[List.length_map];exact h.hxs,λe he=>?_,sld_sl,sld_slD λe=>by rw[hK e];rfl,hF _,sld_slD λe=>by rw[hb e];rfl⟩
   ·obtain⟨g,hg,rfl⟩:=List.mem_map.1 hf
    exact⟨by unfold blF;rw[List.length_map];exact(h.hfc g hg).1,(h.hfc g hg).2⟩
   ·obtain⟨a,ha,rfl⟩:=List.mem_map.1 he
    exact Nat.le_trans (dn_bk _ a) (h.hxb a ha)
  ·have hx1:∀e∈t.xs.map cpX,e.bk<=1048576:=λe he=>by
    obtain⟨a,ha,rfl⟩:=List.mem_map.1 he
    exact Nat.le_trans (cp_bk a) (h.hxb a ha)
   split
   ·exact⟨h.hn,by rw[List.length_set];omega,hset _ _ hc.to,h.hk,h.hfl,h.hfc,by rw[List.length_map];exact h.hxs,hx1,sld_sl,sld_slD λe=>by rw[hK e];rfl,hF _,sld_slD λe=>by rw[hb e];rfl⟩
   ·exact⟨h.hn,by rw[List.length_set];omega,hset _ _ (hkd _),h.hk,h.hfl,h.hfc,by rw[List.length_map];exact h.hxs,hx1,sld_sl,sld_slD λe=>by rw[hK e];rfl,hF _,sld_slD λe=>by rw[hb e];rfl⟩
theorem xs_shf{t:Tb}(hr:t.Rg):t.xs.map (shf 0)=t.xs.map cpX:=map_same λa ha=>shf0_cp a (hr a ha)
theorem list4{α:Type}{l:List α}(h:l.length<=4):l=[]\/(∃a,l=[a])\/(∃a b,l=[a,b])\/(∃a b c,l=[a,b,c])\/∃a b c d,l=[a,b,c,d]:=by
 match l,h with
 |[],_=>exact .inl rfl
 |[a],_=>exact .inr (.inl ⟨a,rfl⟩)
 |[a,b],_=>exact .inr (.inr (.inl ⟨a,b,rfl⟩))
 |[a,b,c],_=>exact .inr (.inr (.inr (.inl ⟨a,b,c,rfl⟩)))
 |[a,b,c,d],_=>exact .inr (.inr (.inr (.inr ⟨a,b,c,d,rfl⟩)))
 |_::_::_::_::_::_,h=>simp at h
theorem dc_sl{t:Tb}{dc dk df dx:D}(h:Tok t dc dk df dx)(hv:Vd t):dc=.sl (eCs t.cs):=by
 rcases h.dc with ⟨_,h2⟩|h2
 ·have:=hv.l1
  cases hcs:t.cs with
  |nil=>rw[hcs] at this;simp at this
  |cons a l=>rw[hcs] at h2;cases h2
 ·exact h2
end Go.Proofs
end
section
namespace Go.Proofs
open Go.Bi
theorem nodup_set{α:Type}{x:α}:∀{l:List α}{i:Nat},l.Nodup->¬x∈l->(l.set i x).Nodup
 |[],_,_,_=>by simp
 |a::l,0,h,hx=>by
  rw[List.nodup_cons] at h
  rw[List.set_cons_zero,List.nodup_cons]
  exact⟨λhm=>hx (by simp[hm]),h.2⟩
 |a::l,i+1,h,hx=>by
  rw[List.nodup_cons] at h
  rw[List.set_cons_succ,List.nodup_cons]
  refine⟨λhm=>?_,nodup_set h.2 λhm=>hx (by simp[hm])⟩
  rcases List.mem_or_eq_of_mem_set hm with hm|rfl
  ·exact h.1 hm
  ·exact hx (by simp)
theorem nodup_map_on{α β:Type}{f:α->β}:∀{l:List α},(∀a∈l,∀b∈l,f a=f b->a=b)->l.Nodup->(l.map f).Nodup
 |[],_,_=>by simp
 |a::l,hf,h=>by
  rw[List.nodup_cons] at h
  rw[List.map_cons,List.nodup_cons]
  refine⟨λhm=>?_,nodup_map_on (λx hx y hy=>hf x (by simp[hx]) y (by simp[hy])) h.2⟩
  obtain⟨b,hb,e⟩:=List.mem_map.1 hm
  have:=hf b (by simp[hb]) a (by simp) e
  subst this
  exact h.1 hb
theorem pairwise_map_on{f:Int->Int}:∀{l:List Int},(∀a∈l,∀b∈l,a<b->f a<f b)->l.Pairwise (·<·)->(l.map f).Pairwise (·<·)
 |[],_,_=>by simp
 |a::l,hf,h=>by
  rw[List.pairwise_cons] at h
  rw[List.map_cons,List.pairwise_cons]
  refine⟨λb hb=>?_,pairwise_map_on (λx hx y hy=>hf x (by simp[hx]) y (by simp[hy])) h.2⟩
  obtain⟨y,hy,rfl⟩:=List.mem_map.1 hb
  exact hf a (by simp) y (by simp[hy]) (h.1 y hy)
theorem belowI_lt{i:Nat}{a b:Int}(ha:a≠i)(hb:b≠i)(h:a<b):belowI a i<belowI b i:=by unfold belowI;split<;>split<;>omega
theorem belowI_inj{i:Nat}{a b:Int}(ha:a≠i)(hb:b≠i)(h:belowI a i=belowI b i):a=b:=by unfold belowI at h;split at h<;>split at h<;>omega
theorem belowI_in{i n:Nat}{a:Int}(hi:i<n)(ha:a≠i)(h0:0<=a)(h1:a<n):0<=belowI a i/\belowI a i<((n-1:Nat):Int):=by unfold belowI;split<;>omega
theorem co_below(l:List Co)(i:Nat){n:Int}(h0:0<=n)(hne:n≠i):(l.eraseIdx i).getD (belowI n i).toNat ⟨[],0,false⟩=l.getD n.toNat ⟨[],0,false⟩:=by
 rw[List.getD_eq_getElem?_getD,List.getD_eq_getElem?_getD,List.getElem?_eraseIdx]
 unfold belowI
 by_cases h:(i:Int)<n
 ·rw[if_pos h,if_neg (by omega)]
  congr 2
  omega
 ·rw[if_neg h,if_pos (by omega)]
theorem find_none{t:Tb}(h:tabE t=0){nm:List UInt8}(hf:findC nm t.cs<0):¬nm∈t.cs.map Co.nm:=by
 intro hm
 obtain⟨c,hc,rfl⟩:=List.mem_map.1 hm
 obtain⟨i,hi⟩:=List.mem_iff_getElem?.1 hc
 rw[findC_at (tabE_ok h).2.1 hi] at hf
 omega
theorem evo_vd{t:Tb}{c:Ch}(h:evoE t c=0):Vd (evoT t c):=by
 obtain⟨q1,q2,q3,q4,q5⟩:=evo_inv h
 have hv:=tab_vd.1 q1
 have hcp:∀ks,(∀x∈t.xs,chk ks x=chk (kd t.cs) x)->∀x∈t.xs.map cpX,dep x<=24/\(chk ks x).2=0/\((chk ks x).1=3\/(chk ks x).1=0):=λks hk x hx=>by
  obtain⟨a,ha,rfl⟩:=List.mem_map.1 hx
  rw[cp_dep,cp_chk,hk a ha]
  exact hv.xs a ha
 by_cases k1:c.k=1
 ·obtain⟨a1,a2,a3,a4,_⟩:=add_inv (q4 k1)
  have e:evoT t c=⟨t.nm,t.cs++[c.co],t.ks,t.fs,t.xs.map cpX⟩:=by unfold evoT;rw[if_pos k1]
  rw[e]
  refine⟨hv.nm,by rw[List.length_append];simp,by rw[List.length_append];simp;omega,λx hx=>?_,?_,hv.k0,λk hk=>?_,hv.ka,hv.fl,λf hf=>?_,by rw[List.length_map];exact hv.xl,?_⟩
  ·rcases List.mem_append.1 hx with hx|hx
   ·exact hv.co x hx
   ·cases List.mem_singleton.1 hx;exact⟨a2,a3⟩
  ·rw[List.map_append,List.map_singleton,List.nodup_append]
   refine⟨hv.nd,by simp,λa ha b hb=>?_⟩
   cases List.mem_singleton.1 hb
   intro e
   subst e
   exact find_none q1 a4 ha
  ·obtain⟨b1,b2,b3⟩:=hv.ks k hk
   refine⟨b1,by rw[List.length_append];simp;omega,?_⟩
   rw[List.getD_eq_getElem?_getD,List.getElem?_append_left (by omega),<- List.getD_eq_getElem?_getD]
   exact b3
  ·obtain⟨b1,b2,b3,b4⟩:=hv.fs f hf
   exact⟨b1,b2,λk hk=>by have:=b3 k hk;rw[List.length_append];simp;omega,b4⟩
  ·have ek:kd (t.cs++[c.co])=kd t.cs++[c.co.k]:=by simp[kd]
   dsimp only
   rw[ek]
   exact hcp _ λx hx=>chk_ext _ x (hv.xs x hx).2.1
 ·obtain⟨i,co,hi,hco,hcn,hus,h4,h3⟩:=chg_inv (q5 k1)
  have hil:=(List.getElem?_eq_some_iff.1 hco).1
  have hiN:(findC c.nm t.cs).toNat=i:=by omega
  have hgd:t.cs.getD i ⟨[],0,false⟩=co:=by rw[List.getD_eq_getElem?_getD,hco];rfl
  by_cases k2:c.k=2
  ·have e:evoT t c=⟨t.nm,t.cs.eraseIdx i,t.ks.map (λx=>belowI x i),t.fs.map (blF i),t.xs.map (dnX i)⟩:=by unfold evoT;rw[if_neg k1,if_pos k2,hiN]
   have hu:=hus (by omega)
   unfold usedL at hu
   simp only[List.mem_append,not_or] at hu
   have u1:∀k∈t.ks,k≠i:=λk hk e=>hu.1.1 (e▸hk)
   have u2:∀f∈t.fs,∀k∈f.cs,k≠i:=λf hf k hk e=>hu.1.2 (List.mem_flatMap.2 ⟨f,hf,e▸hk⟩)
   have u3:∀x∈t.xs,¬(i:Int)∈rawC x:=λx hx hm=>hu.2 (List.mem_flatMap.2 ⟨x,hx,(cols_mem x i).2 hm⟩)
   have hlen:(t.cs.eraseIdx i).length=t.cs.length-1:=by rw[List.length_eraseIdx,if_pos hil]
   have hk2:∀k∈t.ks,0<=belowI k i/\belowI k i<(t.cs.eraseIdx i).length:=λk hk=>by
    obtain⟨b1,b2,b3⟩:=hv.ks k hk
    rw[hlen]
    exact belowI_in hil (u1 k hk) b1 b2
   have hl1:=hv.l2
   rw[e]
   refine⟨hv.nm,?_,by rw[hlen];omega,λx hx=>hv.co x (List.mem_of_mem_eraseIdx hx),?_,λe=>hv.k0 (List.map_eq_nil_iff.1 e),λk hk=>?_,?_,by rw[List.length_map];exact hv.fl,λf hf=>?_,by rw[List.length_map];exact hv.xl,λx hx=>?_⟩
   ·obtain⟨k,hk⟩:=List.exists_mem_of_ne_nil _ hv.k0
    have:=hk2 k hk
    dsimp only
    omega
   ·dsimp only
    rw[map_erase]
    exact hv.nd.sublist (List.eraseIdx_sublist ..)
   ·obtain⟨a,ha,rfl⟩:=List.mem_map.1 hk
    obtain⟨b1,b2,b3⟩:=hv.ks a ha
    refine⟨(hk2 a ha).1,(hk2 a ha).2,?_⟩
    dsimp only
    rw[co_below _ _ b1 (u1 a ha)]
    exact b3
   ·exact pairwise_map_on (λa ha b hb hab=>belowI_lt (u1 a ha) (u1 b hb) hab) hv.ka
   ·obtain⟨g,hg,rfl⟩:=List.mem_map.1 hf
    obtain⟨b1,b2,b3,b4⟩:=hv.fs g hg
    refine⟨b1,λe=>b2 (List.map_eq_nil_iff.1 e),λk hk=>?_,nodup_map_on (λa ha b hb e=>belowI_inj (u2 g hg a ha) (u2 g hg b hb) e) b4⟩
    obtain⟨a,ha,rfl⟩:=List.mem_map.1 hk
    dsimp only
    rw[hlen]
    exact belowI_in hil (u2 g hg a ha) (b3 a ha).1 (b3 a ha).2
   ·obtain⟨a,ha,rfl⟩:=List.mem_map.1 hx
    have ek:kd (t.cs.eraseIdx i)=(kd t.cs).eraseIdx i:=map_erase _ _ _
    dsimp only
    rw[ek,dn_dep,chk_dn (by rw[kd_len];exact hil) a (hv.xs a ha).2.1 (u3 a ha)]
    exact hv.xs a ha
  ·have hset:∀n:Co,n.nl=co.nl->(nameB n.nm=true/\1<=n.k/\n.k<=3)->((t.cs.set i n).map Co.nm).Nodup->(∀x∈t.xs,chk (kd (t.cs.set i n)) x=chk (kd t.cs) x)->Vd ⟨t.nm,t.cs.set i n,t.ks,t.fs,t.xs.map cpX⟩:=by
    intro n hn1 hn2 hn3 hn4
    refine⟨hv.nm,by rw[List.length_set];exact hv.l1,by rw[List.length_set];exact hv.l2,λx hx=>?_,hn3,hv.k0,λk hk=>?_,hv.ka,hv.fl,λf hf=>?_,by rw[List.length_map];exact hv.xl,hcp _ hn4⟩
    ·rcases List.mem_or_eq_of_mem_set hx with hx|rfl
     ·exact hv.co x hx
     ·exact hn2
    ·obtain⟨b1,b2,b3⟩:=hv.ks k hk
     refine⟨b1,by rw[List.length_set];exact b2,?_⟩
     by_cases hki:k.toNat=i
     ·dsimp only
      rw[List.getD_eq_getElem?_getD,hki,List.getElem?_set_self hil,Option.getD_some,hn1]
      rw[hki,hgd] at b3
      exact b3
     ·dsimp only
      rw[List.getD_eq_getElem?_getD,List.getElem?_set_ne (λe=>hki e.symm),<- List.getD_eq_getElem?_getD]
      exact b3
    ·obtain⟨b1,b2,b3,b4⟩:=hv.fs f hf
     exact⟨b1,b2,λk hk=>by have:=b3 k hk;rw[List.length_set];exact this,b4⟩
   have hcm:=hv.co co (List.mem_of_getElem? hco)
   by_cases k3:c.k=3
   ·have e:evoT t c=⟨t.nm,t.cs.set i ⟨c.to,co.k,co.nl⟩,t.ks,t.fs,t.xs.map cpX⟩:=by unfold evoT;rw[if_neg k1,if_neg k2,if_pos k3,hiN,hgd]
    rw[e]
    refine hset ⟨c.to,co.k,co.nl⟩ rfl ⟨(h3 k3).1,hcm.2⟩ ?_ λx hx=>?_
    ·rw[List.map_set]
     exact nodup_set hv.nd (find_none q1 (h3 k3).2)
    ·congr 1
     unfold kd
     rw[List.map_set]
     refine List.ext_getElem? λj=>?_
     by_cases hj:i=j
     ·subst hj
      rw[List.getElem?_set_self (by rw[List.length_map];exact hil),List.getElem?_map,hco];rfl
     ·rw[List.getElem?_set_ne hj]
   ·have k4:c.k=4:=by omega
    have e:evoT t c=⟨t.nm,t.cs.set i ⟨co.nm,2,co.nl⟩,t.ks,t.fs,t.xs.map cpX⟩:=by unfold evoT;rw[if_neg k1,if_neg k2,if_neg k3,hiN,hgd]
    have hu:=hus (by omega)
    unfold usedL at hu
    simp only[List.mem_append,not_or] at hu
    have u3:∀x∈t.xs,¬(i:Int)∈rawC x:=λx hx hm=>hu.2 (List.mem_flatMap.2 ⟨x,hx,(cols_mem x i).2 hm⟩)
    rw[e]
    refine hset ⟨co.nm,2,co.nl⟩ rfl ⟨hcm.1,(by decide:(1:Int)<=2),(by decide:(2:Int)<=3)⟩ ?_ λx hx=>?_
    ·have:(t.cs.set i ⟨co.nm,2,co.nl⟩).map Co.nm=t.cs.map Co.nm:=by
      rw[List.map_set]
      refine List.ext_getElem? λj=>?_
      by_cases hj:i=j
      ·subst hj
       rw[List.getElem?_set_self (by rw[List.length_map];exact hil),List.getElem?_map,hco];rfl
      ·rw[List.getElem?_set_ne hj]
     rw[this]
     exact hv.nd
    ·have ek:kd (t.cs.set i ⟨co.nm,2,co.nl⟩)=(kd t.cs).set i 2:=by unfold kd;rw[List.map_set]
     rw[ek]
     exact chk_set 2 x (u3 x hx)
end Go.Proofs
end
section
namespace Go.Proofs
open Go.Bi
def idxE(t:Tb)(c:Ch)(k:Int):Int:=
 if evoE t c≠0\/k<0\/(t.cs.length:Int)<=k then -1 else if c.k≠2 then k else if findC c.nm t.cs=k then -1 else belowI k (findC c.nm t.cs)
theorem C.evolve_Index(t:Tb)(dc dk df dx:D)(h:Tok t dc dk df dx)(c:Ch)(hc:Cok c)(k:Int):Pure Tryz.prog N.evolve_Index [eT t.nm dc dk df dx,c.av,.d (eI k)] (.d (eI (idxE t c k))):=by
 have hC:=C.evolve_Check t dc dk df dx h c hc
 have hF:=C.schema_Find t.nm t.cs h.hl dc dk df dx h.dc c.nm
 have hl:=h.hl
 have hdc:=h.dc
 have hcl:=eCs_len t.cs
 obtain⟨q,hq⟩:∃q,q=idxE t c k:=⟨_,rfl⟩
 rw[<- hq]
 unfold idxE at hq
 obtain⟨e,he⟩:∃e,e=evoE t c:=⟨_,rfl⟩
 rw[<- he] at hC hq
 obtain⟨f,hf⟩:∃f,f=findC c.nm t.cs:=⟨_,rfl⟩
 rw[<- hf] at hF hq
 obtain⟨n,hn⟩:∃n,n=t.cs.length:=⟨_,rfl⟩
 rw[<- hn] at hcl hl hq
 obtain⟨Cs,hCs⟩:∃x,x=eCs t.cs:=⟨_,rfl⟩
 rw[<- hCs] at hcl hdc
 clear h hf he hn hCs
 obtain⟨ck,nm,to,⟨cn,cck,cl⟩,⟨vk,vn,vs⟩⟩:=c
 dsimp only at hq hF hC
 by_cases g1:e≠0\/k<0\/(n:Int)<=k
 ·rw[if_pos g1] at hq
  subst hq
  by_cases g2:e=0
  rotate_left
  ·refine F.evolve_Index.go mixed rfl ?_
   repeat' first|refine st ?_|((with_reducible apply go_i);conv=>whnf)|((with_reducible first|apply k_pn|apply k_pc);(·exact hC))|(with_reducible first|apply k_d|apply k_b)<;>intro _
   all_goals rfl
  by_cases g3:k<0
  ·refine F.evolve_Index.go mixed rfl ?_
   repeat' first|refine st ?_|((with_reducible apply go_i);conv=>whnf)|((with_reducible first|apply k_pn|apply k_pc);(·exact hC))|(with_reducible first|apply k_d|apply k_b)<;>intro _
   all_goals rfl
  have g4:(n:Int)<=k:=by omega
  refine F.evolve_Index.go mixed rfl ?_
  repeat' first|refine st ?_|((with_reducible apply go_i);conv=>whnf)|((with_reducible first|apply k_pn|apply k_pc);(·exact hC))|(with_reducible first|apply k_d|apply k_b)<;>intro _
  all_goals rfl
 ·rw[if_neg g1] at hq
  have g2:e=0:=by omega
  have g3:0<=k:=by omega
  have g4:k<n:=by omega
  subst g2
  by_cases g5:ck=2
  rotate_left
  ·rw[if_pos g5] at hq
   subst hq
   refine F.evolve_Index.go mixed rfl ?_
   repeat' first|refine st ?_|((with_reducible apply go_i);conv=>whnf)|((with_reducible first|apply k_pn|apply k_pc);(·exact hC))|(with_reducible first|apply k_d|apply k_b)<;>intro _
   all_goals rfl
  subst g5
  rw[if_neg (by decide)] at hq
  by_cases g6:f=k
  ·rw[if_pos g6] at hq
   subst hq
   refine F.evolve_Index.go mixed rfl ?_
   repeat' first|refine st ?_|((with_reducible apply go_i);conv=>whnf)|((with_reducible first|apply k_pn|apply k_pc);(·first|exact hC|exact hF))|(with_reducible first|apply k_d|apply k_b)<;>intro _
   all_goals rfl
  ·rw[if_neg g6] at hq
   have hB:=C.evolve_below k f (by omega) (by omega)
   rw[<- hq] at hB
   refine F.evolve_Index.go mixed rfl ?_
   repeat' first|refine st ?_|((with_reducible apply go_i);conv=>whnf)|((with_reducible first|apply k_pn|apply k_pc);(·first|exact hC|exact hF|exact hB))|(with_reducible first|apply k_d|apply k_b)<;>intro _
   all_goals rfl
end Go.Proofs
end
section
namespace Go.Proofs
open Go.Bi
structure TD where
 t:Tb
 dc:D
 dk:D
 df:D
 dx:D
abbrev TD.av(x:TD):AV:=eT x.t.nm x.dc x.dk x.df x.dx
structure TD.ok(x:TD):Prop where
 tok:Tok x.t x.dc x.dk x.df x.dx
 rg:x.t.Rg
def zTD:TD:=⟨⟨[],[],[],[],[]⟩,.nil,.nil,.nil,.nil⟩
theorem zTD_ok:zTD.ok:=⟨⟨by decide,by decide,by decide,by decide,by decide,λf hf=>by simp[zTD] at hf,by decide,λe he=>by simp[zTD] at he,sld_nil,sld_nil,sld_nil,sld_nil⟩,λe he=>by simp[zTD] at he⟩
def slX(l:List Ex):D:=slD (xL l).isEmpty (xL l)
theorem slX_sld(l:List Ex):SlD (slX l) (xL l):=sld_slD λe=>List.isEmpty_iff.1 e
theorem dF_sld(l:List Fo):SlD (dF l) (eFs l):=sld_slD λe=>by
 cases l with
 |nil=>rfl
 |cons a r=>cases e
def TD.cp(x:TD):TD:=⟨⟨x.t.nm,x.t.cs,x.t.ks,x.t.fs,x.t.xs.map cpX⟩,x.dc,x.dk,dF x.t.fs,slX (x.t.xs.map cpX)⟩
theorem TD.cp_ok{x:TD}(h:x.ok):x.cp.ok:=by
 obtain⟨h,hr⟩:=h
 refine⟨⟨h.hn,h.hl,h.hls,h.hk,h.hfl,h.hfc,by show(x.t.xs.map cpX).length<=_;rw[List.length_map];exact h.hxs,λe he=>?_,h.dc,h.dk,dF_sld _,slX_sld _⟩,λe he=>?_⟩
 ·obtain⟨a,ha,rfl⟩:=List.mem_map.1 he
  exact Nat.le_trans (cp_bk a) (h.hxb a ha)
 ·obtain⟨a,ha,rfl⟩:=List.mem_map.1 he
  exact cp_rg a (hr a ha)
theorem nf_cp(x:TD):nf x.cp.t=nf x.t:=by
 unfold nf TD.cp
 dsimp only
 rw[map_comp (h:=cpX) λa ha=>cp_cp a]
def TD.evo(x:TD)(c:Ch):TD:=⟨evoT x.t c,.sl (eCs (evoT x.t c).cs),slD (isN x.dk) (eIs (evoT x.t c).ks),dF (evoT x.t c).fs,slX (evoT x.t c).xs⟩
theorem TD.evo_ok{x:TD}(h:x.ok){c:Ch}(hc:Cok c)(hq:evoE x.t c=0):(x.evo c).ok:=by
 have hx:slX (evoT x.t c).xs=slD (xL (x.t.xs.map cpX)).isEmpty (xL (evoT x.t c).xs):=by
  unfold slX
  congr 1
  unfold evoT
  split
  ·rfl
  ·split
   ·cases x.t.xs<;>rfl
   ·split<;>rfl
 have hb:(xL (x.t.xs.map cpX)).isEmpty=true->x.t.xs=[]:=λe=>by
  cases hxs:x.t.xs with
  |nil=>rfl
  |cons a l=>rw[hxs] at e;cases e
 refine⟨?_,evoT_rg h.rg c⟩
 unfold TD.evo
 dsimp only
 rw[hx]
 exact evoT_tok h.tok hc (tab_vd.1 (evo_inv hq).1) _ hb
theorem C.evo_Apply(x:TD)(h:x.ok)(c:Ch)(hc:Cok c)(hq:evoE x.t c=0):Pure Tryz.prog N.evolve_Apply [x.av,c.av] (.tup [(x.evo c).av,.d (eI 0)]):=by
 obtain⟨t,dc,dk,df,dx⟩:=x
 obtain⟨h,hr⟩:=h
 dsimp only at h hr hq
 obtain⟨q1,q2,q3,q4,q5⟩:=evo_inv hq
 have hv:=tab_vd.1 q1
 have hdc:=dc_sl h hv
 have hx:=xs_shf hr
 have hnm:(evoT t c).nm=t.nm:=by unfold evoT;split;rfl;split;rfl;split<;>rfl
 have he:slX (evoT t c).xs=slD (xL (t.xs.map (shf 0))).isEmpty (xL (evoT t c).xs):=by
  rw[hx]
  unfold slX
  congr 1
  unfold evoT
  split
  ·rfl
  ·split
   ·cases t.xs<;>rfl
   ·split<;>rfl
 unfold TD.av TD.evo
 dsimp only
 rw[hnm,he]
 by_cases k1:c.k=1
 ·have e:evoT t c=⟨t.nm,t.cs++[c.co],t.ks,t.fs,t.xs.map cpX⟩:=by unfold evoT;rw[if_pos k1]
  rw[e,<- hx]
  rcases list4 hv.fl with hf|⟨a0,hf⟩|⟨a0,a1,hf⟩|⟨a0,a1,a2,hf⟩|⟨a0,a1,a2,a3,hf⟩
  ·exact C.app0_add t dc dk df dx h c hc hq hf k1
  ·exact C.app1_add t dc dk df dx h c hc hq a0 hf k1
  ·exact C.app2_add t dc dk df dx h c hc hq a0 a1 hf k1
  ·exact C.app3_add t dc dk df dx h c hc hq a0 a1 a2 hf k1
  ·exact C.app4_add t dc dk df dx h c hc hq a0 a1 a2 a3 hf k1
 ·obtain⟨i,co,hi,hco,hcn,hus,_,_⟩:=chg_inv (q5 k1)
  have hil:=(List.getElem?_eq_some_iff.1 hco).1
  have hiN:(findC c.nm t.cs).toNat=i:=by omega
  by_cases k2:c.k=2
  ·have e:evoT t c=⟨t.nm,t.cs.eraseIdx i,t.ks.map (λx=>belowI x i),t.fs.map (blF i),t.xs.map (dnX i)⟩:=by unfold evoT;rw[if_neg k1,if_pos k2,hiN]
   have hxd:(t.xs.map (shf 0)).map (subX (mvL t.cs.length i))=t.xs.map (dnX i):=by
    rw[hx]
    exact map_comp λa ha=>sub_dn i (kd_len _) a (hv.xs a ha).2.1
   rw[e,<- hxd]
   have b1:∀k∈t.ks,0<=k/\k<=1048576:=λk hk=>by have:=hv.ks k hk;have:=hv.l2;omega
   have b2:∀g∈t.fs,∀k∈g.cs,0<=k/\k<=1048576:=λg hg k hk=>by have:=(hv.fs g hg).2.2.1 k hk;have:=hv.l2;omega
   have b3:∀e∈t.xs.map (shf 0),e.bk<=1048576:=λe he=>by
    rw[hx] at he
    obtain⟨a,ha,rfl⟩:=List.mem_map.1 he
    exact Nat.le_trans (cp_bk a) (h.hxb a ha)
   rcases list4 hv.fl with hf|⟨a0,hf⟩|⟨a0,a1,hf⟩|⟨a0,a1,a2,hf⟩|⟨a0,a1,a2,a3,hf⟩
   ·exact C.app0_drp t dc dk df dx h c hc hq hf k2 i hi hil hdc b1 b2 b3
   ·exact C.app1_drp t dc dk df dx h c hc hq a0 hf k2 i hi hil hdc b1 b2 b3
   ·exact C.app2_drp t dc dk df dx h c hc hq a0 a1 hf k2 i hi hil hdc b1 b2 b3
   ·exact C.app3_drp t dc dk df dx h c hc hq a0 a1 a2 hf k2 i hi hil hdc b1 b2 b3
   ·exact C.app4_drp t dc dk df dx h c hc hq a0 a1 a2 a3 hf k2 i hi hil hdc b1 b2 b3
  ·by_cases k3:c.k=3
   ·have e:evoT t c=⟨t.nm,t.cs.set i ⟨c.to,co.k,co.nl⟩,t.ks,t.fs,t.xs.map cpX⟩:=by unfold evoT;rw[if_neg k1,if_neg k2,if_pos k3,hiN,getD_at hco]
    rw[e,<- hx]
    rcases list4 hv.fl with hf|⟨a0,hf⟩|⟨a0,a1,hf⟩|⟨a0,a1,a2,hf⟩|⟨a0,a1,a2,a3,hf⟩
    ·exact C.app0_ren t dc dk df dx h c hc hq hf k3 i hi co hco hdc
    ·exact C.app1_ren t dc dk df dx h c hc hq a0 hf k3 i hi co hco hdc
    ·exact C.app2_ren t dc dk df dx h c hc hq a0 a1 hf k3 i hi co hco hdc
    ·exact C.app3_ren t dc dk df dx h c hc hq a0 a1 a2 hf k3 i hi co hco hdc
    ·exact C.app4_ren t dc dk df dx h c hc hq a0 a1 a2 a3 hf k3 i hi co hco hdc
   ·have k4:c.k=4:=by omega
    have e:evoT t c=⟨t.nm,t.cs.set i ⟨co.nm,2,co.nl⟩,t.ks,t.fs,t.xs.map cpX⟩:=by unfold evoT;rw[if_neg k1,if_neg k2,if_neg k3,hiN,getD_at hco]
    rw[e,<- hx]
    rcases list4 hv.fl with hf|⟨a0,hf⟩|⟨a0,a1,hf⟩|⟨a0,a1,a2,hf⟩|⟨a0,a1,a2,a3,hf⟩
    ·exact C.app0_txt t dc dk df dx h c hc hq hf k4 i hi co hco hdc
    ·exact C.app1_txt t dc dk df dx h c hc hq a0 hf k4 i hi co hco hdc
    ·exact C.app2_txt t dc dk df dx h c hc hq a0 a1 hf k4 i hi co hco hdc
    ·exact C.app3_txt t dc dk df dx h c hc hq a0 a1 a2 hf k4 i hi co hco hdc
    ·exact C.app4_txt t dc dk df dx h c hc hq a0 a1 a2 a3 hf k4 i hi co hco hdc
theorem C.evo_ApplyErr(x:TD)(h:x.ok)(c:Ch)(hc:Cok c)(hq:evoE x.t c≠0):Pure Tryz.prog N.evolve_Apply [x.av,c.av] (.tup [zTD.av,.d (eI (evoE x.t c))]):=
 C.apply_err x.t x.dc x.dk x.df x.dx h.tok c hc hq
theorem dg_tabF{os:List AO}{nm:List UInt8}{a b f x:Nat}{K X Cs:List (List D)}{rows:List (List AV)}{fs:List Fo}{cn kn xn nl:Bool}{cz kz xz cf kf xf lf:Nat}(hlf:lf=rows.length)
  (h1:os[a]?=some (.arr Cs cz cf cn)) (h2:os[b]?=some (.arr K kz kf kn)) (h3:os[f]?=some (.rarr rows 2 nl)) (h4:os[x]?=some (.arr X xz xf xn)) (hl:fs.length=rows.length)
  (hr:∀(i:Nat) e (g:Fo),rows[i]?=some e->fs[i]?=some g->∃q es fl,e=[.arr q es.length,.d (.str g.tb)]/\os[q]?=some (.arr es 1 0 fl)/\g.d=slD fl es) :
  DA os (.agg [.d (.str nm),.arr a Cs.length,.arr b K.length,.rs f lf,.arr x X.length]) (eT nm (slD cn Cs) (slD kn K) (slD nl (eFs fs)) (slD xn X)):=by
 subst hlf
 have h:=da_tabF (nm:=nm) (e:=.nil) (.inl (.inr ⟨a,Cs,cz,cf,cn,rfl,h1,rfl⟩)) h2 h3 h4 hl hr
 rcases h with h|⟨cs,rs,e1,e2,e3,e4⟩
 ·rcases h with ⟨x,hx,_⟩|⟨_,_,hx,_⟩
  ·rcases hx with (hx|⟨_,_,_,_,_,hx,_⟩)|⟨_,_,_,_,_,hx,_⟩<;>cases hx
  ·cases hx
 ·cases e1;cases e2
  exact .inl (e4 0 _ _ rfl rfl)
theorem rowsF_len:∀(k:Nat)(l:List Fi),(rowsF k l).length=l.length
 |_,[]=>rfl
 |k,f::fs=>by rw[rowsF,List.length_cons,rowsF_len (k+1) fs,List.length_cons]
theorem rowsF_get:∀(l:List Fi)(k i:Nat)(f:Fi),l[i]?=some f->(rowsF k l)[i]?=some [.arr (k+i) f.es.length,.d (.str f.tb)]
 |[],_,i,f,h=>by simp at h
 |a::l,k,0,f,h=>by cases h;rfl
 |a::l,k,i+1,f,h=>by
  rw[rowsF,List.getElem?_cons_succ,rowsF_get l (k+1) i f (by simpa using h),show k+1+i=k+(i+1) by omega]
def Fi.of(g:Fo):Fi:=⟨g.d,eIs g.cs,isN g.d,g.tb⟩
theorem C.clone_any(x:TD)(h:x.ok)(hf4:x.t.fs.length<=4):Pure Tryz.prog N.schema_Clone [x.av] x.cp.av:=by
 obtain⟨t,dc,dk,df,dx⟩:=x
 obtain⟨h,hr⟩:=h
 dsimp only at h hr hf4
 have hx:=xs_shf hr
 have hok:∀g∈t.fs,(Fi.of g).ok:=λg hg=>C.cloneI _ (by rw[eIs_len];have:=(h.hfc g hg).1;omega) (eIs_mem _) g.d g.sld
 have hC:=C.cloneC (eCs t.cs) (by rw[eCs_len];have:=h.hl;omega) (eCs_mem _) dc h.dc
 have hI:=C.cloneI (eIs t.ks) (by rw[eIs_len];have:=h.hk;omega) (eIs_mem _) dk h.dk
 have key:∀(l:List Fi) (hl:l=t.fs.map Fi.of) (n:Nat) (hn:n=l.length) (tab out:List AV),DA (clB tab out t.nm (eCs t.cs) (eIs t.ks) (isN dc) (isN dk) l (xL (t.xs.map (shf 0))) (xL (t.xs.map (shf 0))).isEmpty) (.agg (oB t.nm (eCs t.cs).length (eIs t.ks).length n (xL (t.xs.map (shf 0))).length))
   (eT t.nm (slD (isN dc) (eCs t.cs)) (slD (isN dk) (eIs t.ks)) (slD l.isEmpty (eFs t.fs)) (slD (xL (t.xs.map (shf 0))).isEmpty (xL (t.xs.map (shf 0))))):=by
  intro l hl n hn tab out
  refine dg_tabF (rows:=rowsF 7 l) (fs:=t.fs) (by rw[rowsF_len];exact hn) rfl rfl rfl rfl (by rw[rowsF_len,hl,List.length_map]) λi e g he hg=>?_
  have h1:l[i]?=some (Fi.of g):=by rw[hl,List.getElem?_map,hg];rfl
  rw[rowsF_get l 7 i _ h1] at he
  cases he
  refine⟨7+i,eIs g.cs,isN g.d,rfl,?_,(slD_isN g.sld).symm⟩
  unfold clB
  rw[List.getElem?_append_right (by simp)]
  show(innF l)[7+i-7]?=_
  unfold innF
  rw[show 7+i-7=i by omega,List.getElem?_map,h1]
  rfl
 have fin:∀(l:List Fi),l=t.fs.map Fi.of->TD.av (TD.cp ⟨t,dc,dk,df,dx⟩)=eT t.nm (slD (isN dc) (eCs t.cs)) (slD (isN dk) (eIs t.ks)) (slD l.isEmpty (eFs t.fs)) (slD (xL (t.xs.map (shf 0))).isEmpty (xL (t.xs.map (shf 0)))):=by
  intro l hl
  rw[slD_isN h.dc,slD_isN h.dk,hx,hl]
  unfold TD.av TD.cp dF slX
  dsimp only
  have e:(t.fs.map Fi.of).isEmpty=t.fs.isEmpty:=by cases t.fs<;>rfl
  rw[e]
 have hdf:=h.df
 rcases list4 hf4 with hf|⟨a0,hf⟩|⟨a0,a1,hf⟩|⟨a0,a1,a2,hf⟩|⟨a0,a1,a2,a3,hf⟩
 ·have hd:SlD df []:=by rw[hf] at hdf;exact hdf
  refine CallSpec.deepP (C.clone0 t.nm dc dk df dx (eCs t.cs) (eIs t.ks) (isN dc) (isN dk) hC hI hd t.xs h.hxb h.hxs h.dx) ?_
  rintro r os ⟨rfl,rfl⟩
  rw[fin [] (by rw[hf];rfl)]
  exact key [] (by rw[hf];rfl) 0 rfl _ _
 all_goals
  have hd:df=.sl (eFi (t.fs.map Fi.of)):=by
   have e:eFi (t.fs.map Fi.of)=eFs t.fs:=by unfold eFi eFs;rw[List.map_map];rfl
   rw[e]
   rcases hdf with ⟨_,h2⟩|h2
   ·rw[hf] at h2;cases h2
   ·exact h2
  rw[hf] at hd
 ·refine CallSpec.deepP (C.clone1 t.nm dc dk df dx (eCs t.cs) (eIs t.ks) (isN dc) (isN dk) hC hI (Fi.of a0) (hok a0 (by rw[hf];simp)) hd t.xs h.hxb h.hxs h.dx) ?_
  rintro r os ⟨rfl,rfl⟩
  rw[fin [Fi.of a0] (by rw[hf];rfl)]
  exact key _ (by rw[hf];rfl) 1 rfl _ _
 ·refine CallSpec.deepP (C.clone2 t.nm dc dk df dx (eCs t.cs) (eIs t.ks) (isN dc) (isN dk) hC hI (Fi.of a0) (Fi.of a1) (hok a0 (by rw[hf];simp)) (hok a1 (by rw[hf];simp)) hd t.xs h.hxb h.hxs h.dx) ?_
  rintro r os ⟨rfl,rfl⟩
  rw[fin [Fi.of a0,Fi.of a1] (by rw[hf];rfl)]
  exact key _ (by rw[hf];rfl) 2 rfl _ _
 ·refine CallSpec.deepP (C.clone3 t.nm dc dk df dx (eCs t.cs) (eIs t.ks) (isN dc) (isN dk) hC hI (Fi.of a0) (Fi.of a1) (Fi.of a2) (hok a0 (by rw[hf];simp)) (hok a1 (by rw[hf];simp)) (hok a2 (by rw[hf];simp)) hd t.xs h.hxb h.hxs h.dx) ?_
  rintro r os ⟨rfl,rfl⟩
  rw[fin [Fi.of a0,Fi.of a1,Fi.of a2] (by rw[hf];rfl)]
  exact key _ (by rw[hf];rfl) 3 rfl _ _
 ·refine CallSpec.deepP (C.clone4 t.nm dc dk df dx (eCs t.cs) (eIs t.ks) (isN dc) (isN dk) hC hI (Fi.of a0) (Fi.of a1) (Fi.of a2) (Fi.of a3) (hok a0 (by rw[hf];simp)) (hok a1 (by rw[hf];simp)) (hok a2 (by rw[hf];simp)) (hok a3 (by rw[hf];simp)) hd t.xs h.hxb h.hxs h.dx) ?_
  rintro r os ⟨rfl,rfl⟩
  rw[fin [Fi.of a0,Fi.of a1,Fi.of a2,Fi.of a3] (by rw[hf];rfl)]
  exact key _ (by rw[hf];rfl) 4 rfl _ _
end Go.Proofs
end
section
namespace Go.Proofs
open Go.Bi
abbrev chds(c:Ch):List D:=[eI c.k,.str c.nm,.str c.to,.str c.co.nm,eI c.co.k,.bool c.co.nl,eI c.df.k,eI c.df.n,.str c.df.s]
def eChs(l:List Ch):List (List D):=l.map chds
theorem eChs_len(l:List Ch):(eChs l).length=l.length:=by simp[eChs]
theorem eChs_get{l:List Ch}{i:Nat}{c:Ch}(h:l[i]?=some c):(eChs l)[i]?=some (chds c):=by simp[eChs,h]
theorem eChs_mem(l:List Ch):∀e∈eChs l,e.length=9:=by
 intro e he
 obtain⟨x,_,rfl⟩:=List.mem_map.1 he
 rfl
theorem eChs_take(l:List Ch)(i:Nat):(eChs l).take i=eChs (l.take i):=by simp[eChs]
def TD.run(x:TD)(i:Nat):List Ch->TD×Nat×Int
 |[]=>(x,i,0)
 |c::r=>if evoE x.t c=0 then TD.run (x.evo c) (i+1) r else (zTD,i,evoE x.t c)
def TD.runs(x:TD)(l:List Ch):TD×Nat×Int:=if tabE x.t=0 then TD.run x.cp 0 l else (zTD,0,tabE x.t)
end Go.Proofs
end
