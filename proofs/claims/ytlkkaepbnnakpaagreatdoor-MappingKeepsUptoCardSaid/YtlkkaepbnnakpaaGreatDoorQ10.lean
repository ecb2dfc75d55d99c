/- Texts of this claim, joined. No condition. -/
import Derived.Test.YtlkkaepbnnakpaaGreatDoorQ9
import Derived.Test.YtlkkaepbnnakpaaGreatDoorIc0
import Derived.Test.YtlkkaepbnnakpaaGreatDoorIc1
set_option linter.unusedSimpArgs false
set_option linter.unusedVariables false
set_option maxRecDepth 10000
set_option maxHeartbeats 4000000
section
namespace Go.Proofs
open Go.Bi
theorem A5y{t u:Tb}(h:nf t=nf u)(c:Ch):D2 t c=D2 u c:=by rw[<- A44,h,A44]
theorem D3m{x y:TD}(h:nf x.t=nf y.t)(c:Ch):nf (x.to c).t=nf (y.to c).t:=by
 unfold TD.to
 rw[A5y h c]
 split
 ·show nf (D9 x.t c)=nf (D9 y.t c)
  rw[<- A4j,h,A4j]
 ·rfl
theorem A9Y:∀(l:List Ch){x y:TD},nf x.t=nf y.t->M3 x l=M3 y l/\nf (I3 x l).t=nf (I3 y l).t
 |[],x,y,h=>⟨rfl,h⟩
 |c::r,x,y,h=>by
  have h1:=A9Y r (D3m h c)
  exact⟨by rw[M3,M3,A5y h c,h1.1],h1.2⟩
theorem B16:∀(l:List Ch)(x:TD)(i:Nat),((TD.run x i l).2.2=0↔M3 x l=true)/\(M3 x l=true->(TD.run x i l).1=I3 x l)
 |[],x,i=>⟨by simp[TD.run,M3],λ_=>rfl⟩
 |c::r,x,i=>by
  by_cases hq:D2 x.t c=0
  ·have e1:TD.run x i (c::r)=TD.run (x.evo c) (i+1) r:=by rw[TD.run,if_pos hq]
   have e2:x.to c=x.evo c:=by unfold TD.to;rw[if_pos hq]
   rw[e1,M3,decide_eq_true hq,w6,e2,I3,e2]
   exact B16 r _ _
  ·have e1:TD.run x i (c::r)=(r9,i,D2 x.t c):=by rw[TD.run,if_neg hq]
   rw[e1,M3,decide_eq_false hq,Bool.false_and]
   exact⟨⟨λh=>absurd h hq,λh=>by cases h⟩,λh=>by cases h⟩
theorem B9E(x:TD)(l:List Ch):(x.runsR l).2.2=0↔O0 x l=true:=by
 have h1:=(B9F x l).1
 rw[<- h1]
 unfold TD.runs O0
 by_cases hq:K8 x.t=0
 ·rw[if_pos hq,decide_eq_true hq,w6,(B16 l x.cp 0).1,(A9Y l (B0N x)).1]
 ·rw[if_neg hq,decide_eq_false hq,Bool.false_and]
  exact⟨λh=>absurd h hq,λh=>by cases h⟩
theorem B1a(x:TD)(l:List Ch)(h:O0 x l=true):nf (x.runsR l).1.t=nf (I3 x l).t:=by
 rw[<- (B9F x l).2]
 unfold O0 at h
 rw[L2] at h
 have hq:K8 x.t=0:=of_decide_eq_true h.1
 have h2:=A9Y l (B0N x)
 unfold TD.runs
 rw[if_pos hq,(B16 l x.cp 0).2 (by rw[h2.1];exact h.2),h2.2]
theorem B9O:∀(l:List Ch)(x:TD)(i:Nat),M3 x l=true->M3 x (l.take i)=true
 |[],x,i,h=>by simpa using h
 |c::r,x,0,h=>rfl
 |c::r,x,i+1,h=>by
  rw[M3,L2] at h
  rw[A2Q,M3,h.1,B9O r _ i h.2];rfl
theorem A8b{x:TD}{l:List Ch}(i:Nat)(h:O0 x l=true):O0 x (l.take i)=true:=by
 unfold O0 at *
 rw[L2] at h
 rw[h.1,B9O l x i h.2];rfl
theorem B0U(x:TD)(l:List Ch):A0O x l (l.length+1)=O0 x l:=by
 cases h:O0 x l with
 |true=>
  unfold A0O
  rw[M5]
  intro i _
  exact decide_eq_true ((B9E x _).2 (A8b i h))
 |false=>
  refine B9f (i:=l.length) (λe=>?_) (Nat.lt_succ_self _)
  rw[List.take_length,B9E,h] at e
  cases e
theorem B0X(x:TD)(l:List Ch)(j i:Nat)(h:i<j):(R7 x l j)[i]?=some (x.runsR (l.take i)).1:=by
 unfold R7
 rw[G4,List.getElem?_range h]
 rfl
theorem D0X{t u:Tb}(h:nf t=nf u)(c:Ch)(k:Int):R6 t c k=R6 u c k:=by
 have e:t.cs=u.cs:=by unfold nf at h;injection h
 unfold R6
 rw[A5y h c,e]
theorem C97{t u:Tb}(h:nf t=nf u)(c:Ch)(k:Int):Z7 t c k=Z7 u c k:=by
 have e:t.cs=u.cs:=by unfold nf at h;injection h
 unfold Z7
 rw[e]
theorem B82:∀(S:List St),S3 S (-1)=-1
 |[]=>rfl
 |s::r=>by
  have h:R6 s.x.t s.c (-1)=-1:=by unfold R6;rw[if_pos (.inr (.inl (by decide)))]
  unfold S3
  rw[A2J,h]
  exact B82 r
theorem B6L:∀(S:List St),(∀s∈S,bkI s (-1)=-1)->T8 S (-1)=-1
 |[],_=>rfl
 |s::r,h=>by
  have h1:=B6L r λy hy=>h y (by simp[hy])
  unfold T8 at h1 ⊢
  rw[List.foldr_cons,h1]
  exact h s (by simp)
theorem B6F{t:Tb}{c:Ch}(h:D2 t c=0):Z7 t c (-1)=-1:=by
 obtain⟨q1,q2,q3,q4,q5⟩:=k8 h
 unfold Z7
 rw[if_neg (by omega)]
 by_cases k2:c.k=2
 ·obtain⟨i,co,hi,_⟩:=x9 (q5 (by omega))
  rw[if_neg (by omega)]
 ·rw[if_neg (λe=>k2 e.1)]
theorem C1X(y:TD)(h:y.ok)(c:Ch)(k:Int)(hk:k<=4611686018427387904)(hk0:-4611686018427387904<=k):Pure Tryz.prog B5y [y.av,c.av,.d (eI k)] (.d (eI (Z7 y.t c k))):=by
 have hF:=A1v y.t.nm y.t.cs h.tok.hl y.dc y.dk y.df y.dx h.tok.dc c.nm
 have hdc:=h.tok.dc
 have hcl:=F4 y.t.cs
 have hl:=h.tok.hl
 obtain⟨q,hq⟩:∃q,q=Z7 y.t c k:=⟨_,rfl⟩
 rw[<- hq]
 unfold Z7 at hq
 obtain⟨f,hf⟩:∃f,f=D6 c.nm y.t.cs:=⟨_,rfl⟩
 rw[<- hf] at hF hq
 obtain⟨Cs,hCs⟩:∃z,z=B2 y.t.cs:=⟨_,rfl⟩
 rw[<- hCs] at hdc hcl
 rw[<- hcl] at hq
 have hl':Cs.length<=1048576:=by omega
 clear hf hCs h
 obtain⟨⟨nm,cs,ks,fs,xs⟩,dc,dk,df,dx⟩:=y
 obtain⟨ck,cnm,to,⟨cn,cck,cl⟩,⟨vk,vn,vs⟩⟩:=c
 dsimp only at hq hF hdc
 clear hcl hl
 refine C3g.go A6 rfl ?_
 by_cases h1:ck=1
 ·subst h1
  by_cases h2:k=Cs.length
  ·rw[if_pos ⟨rfl,h2⟩] at hq
   subst hq
   repeat' first|refine st ?_|(with_reducible first|apply A5|apply A4)<;>intro _
   all_goals rfl
  ·rw[if_neg (λe=>h2 e.2),if_neg (by omega)] at hq
   subst hq
   repeat' first|refine st ?_|(with_reducible first|apply A5|apply A4)<;>intro _
   all_goals rfl
 ·rw[if_neg (λe=>h1 e.1)] at hq
  by_cases h2:ck=2
  ·subst h2
   by_cases h3:f<=k
   ·rw[if_pos ⟨rfl,h3⟩] at hq
    subst hq
    repeat' first|refine st ?_|((with_reducible first|apply A8|apply A7);(·exact hF))|(with_reducible first|apply A5|apply A4)<;>intro _
    all_goals rfl
   ·rw[if_neg (λe=>h3 e.2)] at hq
    subst hq
    repeat' first|refine st ?_|((with_reducible first|apply A8|apply A7);(·exact hF))|(with_reducible first|apply A5|apply A4)<;>intro _
    all_goals rfl
  ·rw[if_neg (λe=>h2 e.1)] at hq
   subst hq
   repeat' first|refine st ?_|(with_reducible first|apply A5|apply A4)<;>intro _
   all_goals rfl
theorem C1U(x:TD)(h:x.ok)(l:List Ch)(hl:l.length<=1048576)(hls:∀c∈l,G7 c)(d:D)(hd:B8 d (M9 l))(a b k:Int) :
  Pure Tryz.prog B5u [x.av,.d d,.d (eI a),.d (eI b),.d (eI k)] (.d (eI (y0 x l a b k))):=by
 have hT:=A8C x h l hl hls d hd
 have h1:=A1L l
 have hm:=A3Y l
 have hgc:=λi c=>@A5v l i c
 obtain⟨q,hq⟩:∃q,q=y0 x l a b k:=⟨_,rfl⟩
 rw[<- hq]
 unfold y0 at hq
 unfold A4m at hT
 rw[B0U] at hT
 obtain⟨es,hes⟩:∃es,es=M9 l:=⟨_,rfl⟩
 rw[<- hes] at h1 hd hgc hm
 cases hb:O0 x l with
 |false=>
  rw[hb] at hT hq
  rw[if_neg (by decide)] at hT
  rw[if_pos (.inl rfl)] at hq
  subst hq
  have g0:a<0\/0<=a:=by omega
  clear hb hd h
  obtain⟨⟨nm,cs,ks,fs,xs⟩,dc,dk,df,dx⟩:=x
  refine A28.go A6 rfl ?_
  rcases g0 with g0|g0
  ·repeat' first|refine st ?_|((with_reducible first|apply A8|apply A7);(·exact hT))|(with_reducible first|apply A5|apply A4)<;>intro _
   all_goals rfl
  ·repeat' first|refine st ?_|((with_reducible first|apply A8|apply A7);(·exact hT))|(with_reducible first|apply A5|apply A4)<;>intro _
   all_goals rfl
 |true=>
  rw[hb] at hT hq
  rw[if_pos rfl] at hT
  have hbs:K8 x.t=0/\M3 x l=true:=by
   unfold O0 at hb
   rw[L2] at hb
   exact⟨of_decide_eq_true hb.1,hb.2⟩
  simp only[A4A,false_or] at hq
  have hTl:=A41 (R7 x l (l.length+1))
  have hTm:=A37 (R7 x l (l.length+1))
  have hTl2:(R7 x l (l.length+1)).length=l.length+1:=by unfold R7;rw[D5,List.length_range]
  rw[hTl2] at hTl
  have hTg:∀i,i<=l.length->∃y:TD,(V4 (R7 x l (l.length+1)))[i]?=some [.str y.t.nm,y.dc,y.dk,y.df,y.dx]/\y.ok/\nf y.t=nf (I3 x (l.take i)).t:=λi hi=>
   ⟨_,A5w (B0X x l _ i (by omega)),B1b h λc hc=>hls c (W3 hc),B1a x _ (A8b i hb)⟩
  obtain⟨Ts,hTs⟩:∃z,z=V4 (R7 x l (l.length+1)):=⟨_,rfl⟩
  rw[<- hTs] at hT hTl hTg hTm
  by_cases g1:a<0
  ·rw[if_pos (.inl g1)] at hq
   subst hq
   clear hb hd h
   obtain⟨⟨nm,cs,ks,fs,xs⟩,dc,dk,df,dx⟩:=x
   refine A28.go A6 rfl ?_
   repeat' first|refine st ?_|((with_reducible first|apply A8|apply A7);(·exact hT))|(with_reducible first|apply A5|apply A4)<;>intro _
   all_goals rfl
  by_cases g2:b<0
  ·rw[if_pos (.inr (.inl g2))] at hq
   subst hq
   clear hb hd h
   obtain⟨⟨nm,cs,ks,fs,xs⟩,dc,dk,df,dx⟩:=x
   refine A28.go A6 rfl ?_
   repeat' first|refine st ?_|((with_reducible first|apply A8|apply A7);(·exact hT))|(with_reducible first|apply A5|apply A4)<;>intro _
   all_goals rfl
  by_cases g3:(l.length:Int)<a
  ·rw[if_pos (.inr (.inr (.inl g3)))] at hq
   subst hq
   have g3':(Ts.length:Int)<=a:=by omega
   clear hb h
   obtain⟨⟨nm,cs,ks,fs,xs⟩,dc,dk,df,dx⟩:=x
   refine A28.go A6 rfl ?_
   repeat' first|refine st ?_|((with_reducible first|apply A8|apply A7);(·exact hT))|(with_reducible first|apply A5|apply A4)<;>intro _
   all_goals rfl
  by_cases g4:(l.length:Int)<b
  ·rw[if_pos (.inr (.inr (.inr (.inl g4))))] at hq
   subst hq
   have g4':(Ts.length:Int)<=b:=by omega
   have g3':a<(Ts.length:Int):=by omega
   clear hb h
   obtain⟨⟨nm,cs,ks,fs,xs⟩,dc,dk,df,dx⟩:=x
   refine A28.go A6 rfl ?_
   repeat' first|refine st ?_|((with_reducible first|apply A8|apply A7);(·exact hT))|(with_reducible first|apply A5|apply A4)<;>intro _
   all_goals rfl
  have g3':a<(Ts.length:Int):=by omega
  have g4':b<(Ts.length:Int):=by omega
  by_cases g5:k<0
  ·rw[if_pos (.inr (.inr (.inr (.inr (.inl g5)))))] at hq
   subst hq
   clear hb h
   obtain⟨⟨nm,cs,ks,fs,xs⟩,dc,dk,df,dx⟩:=x
   refine A28.go A6 rfl ?_
   repeat' first|refine st ?_|((with_reducible first|apply A8|apply A7);(·exact hT))|(with_reducible first|apply A5|apply A4)<;>intro _
   all_goals rfl
  obtain⟨a,rfl⟩:∃n:Nat,a=n:=⟨a.toNat,by omega⟩
  obtain⟨b,rfl⟩:∃n:Nat,b=n:=⟨b.toNat,by omega⟩
  have ga:a<=l.length:=by omega
  have gb:b<=l.length:=by omega
  rw[G8,G8] at hq
  obtain⟨v,hv,hvok,hvn⟩:=hTg a ga
  have hve:v.t.cs=(I3 x (l.take a)).t.cs:=by unfold nf at hvn;injection hvn
  rw[<- hve] at hq
  have hvd:=hvok.tok.dc
  have hvl:=F4 v.t.cs
  have hvb:=hvok.tok.hl
  have hv2:Ts[((a:Nat):Int).toNat]?=_:=hv
  obtain⟨Cv,hCv⟩:∃z,z=B2 v.t.cs:=⟨_,rfl⟩
  rw[<- hCv] at hvd hvl
  by_cases g6:(v.t.cs.length:Int)<=k
  ·rw[if_pos (.inr (.inr (.inr (.inr (.inr g6)))))] at hq
   subst hq
   have g6':(Cv.length:Int)<=k:=by omega
   clear hb h hbs hve hCv
   obtain⟨⟨nm,cs,ks,fs,xs⟩,dc,dk,df,dx⟩:=x
   refine A28.go A6 rfl ?_
   repeat' first|refine st ?_|((with_reducible first|apply A8|apply A7);(·exact hT))|(with_reducible first|apply A5|apply A4)<;>intro _
   all_goals rfl
  ·rw[if_neg (by omega)] at hq
   have g6':k<(Cv.length:Int):=by omega
   have hSl:=A22 l x
   have hSg:∀(i:Nat) c,l[i]?=some c->(J3 x l)[i]?=some ⟨I3 x (l.take i),(I3 x (l.take i)).to c,c⟩:=λi c hc=>v7 hc
   have hev:∀(i:Nat) c,l[i]?=some c->D2 (I3 x (l.take i)).t c=0:=λi c hc=>A1k hbs.2 hc
   obtain⟨S,hSS⟩:∃S,S=J3 x l:=⟨_,rfl⟩
   rw[<- hSS] at hSl hSg hq
   obtain⟨cx,hcx⟩:∃z,z=λi=>I3 x (l.take i):=⟨_,rfl⟩
   have zTg:∀i,i<=l.length->∃y:TD,Ts[i]?=some [.str y.t.nm,y.dc,y.dk,y.df,y.dx]/\y.ok/\nf y.t=nf (cx i).t:=λi hi=>by rw[hcx];exact hTg i hi
   have zSg:∀(i:Nat) c,l[i]?=some c->S[i]?=some ⟨cx i,(cx i).to c,c⟩:=λi c hc=>by rw[hcx];exact hSg i c hc
   have zev:∀(i:Nat) c,l[i]?=some c->D2 (cx i).t c=0:=λi c hc=>by rw[hcx];exact hev i c hc
   clear hb h hbs hve hCv hcx hSS hvn hTg hSg hev
   have hbf:=λi=>B81 ((S.drop a).take (i-a)) k (by omega)
   have hbb:=λj=>A9R ((S.drop j).take (a-j)) k (by omega)
   have hbbl:∀j,((S.drop j).take (a-j)).length<=1048576:=λj=>O9 (A6V ..) (by omega)
   obtain⟨⟨nm,cs,ks,fs,xs⟩,dc,dk,df,dx⟩:=x
   refine A28.go A6 rfl ?_
   repeat' first|refine st ?_|((with_reducible first|apply A8|apply A7);(·exact hT))|(with_reducible first|apply A5|apply A4)<;>intro _
   have hz0:S3 ((S.drop a).take (a-a)) k=k:=by simp[S3]
   refine F7 A6 C5X C53 (λ(i:Nat)=>[.d (eI (S3 ((S.drop a).take (i-a)) k)),.d (eI i)]) (λi=>[.cells [.d (.str nm),.d dc,.d dk,.d df,.d dx]]) (λi=>a<=i/\(i<=b\/i=a)) (λi=>b-i) a rfl rfl (by rw[hz0];rfl) rfl (λ_ _=>⟨rfl,rfl⟩) rfl ⟨G9 _,.inr rfl⟩ ?_
   repeat' first|refine st ?_|(with_reducible first|apply A5|apply A4)<;>intro _
   intro i ⟨g7,g8⟩
   have hbi:=hbf i
   obtain⟨w,hw⟩:∃w,w=S3 ((S.drop a).take (i-a)) k:=⟨_,rfl⟩
   rw[<- hw] at hbi ⊢
   by_cases hib:i<b/\0<=w
   ·obtain⟨hib,hw0⟩:=hib
    obtain⟨c,hc⟩:∃c,l[i]?=some c:=⟨_,C8 (by omega)⟩
    obtain⟨y,hy1,hy2,hy3⟩:=zTg i (by omega)
    have hI:=C1L y.t y.dc y.dk y.df y.dx hy2.tok c (hls c (C4 hc)) w
    rw[D0X hy3 c w] at hI
    have hsn:=B0t S a i _ k g7 (zSg i c hc)
    rw[<- hw] at hsn
    dsimp only at hsn
    obtain⟨w2,hw2⟩:∃z,z=R6 (cx i).t c w:=⟨_,rfl⟩
    rw[<- hw2] at hI hsn
    have hgl:=hgc i c hc
    have hy1':Ts[((i:Nat):Int).toNat]?=_:=hy1
    have hgl':es[((i:Nat):Int).toNat]?=_:=hgl
    have hil:(i:Int)<es.length:=by omega
    have hil2:(i:Int)<Ts.length:=by omega
    obtain⟨ck,cnm,to,⟨cn,cck,cl⟩,⟨vk,vn,vs⟩⟩:=c
    clear hw zTg zSg zev
    repeat' first|refine st ?_|((with_reducible first|apply A8|apply A7);(·exact hI))|(with_reducible first|apply A5|apply A4)<;>intro _
    refine⟨i+1,?_,rfl,rfl,by omega,by omega,.inl (by omega)⟩
    rw[hsn]
    rfl
   ·have hfin:(a<=b->w=S3 ((S.drop a).take (b-a)) k)/\(¬a<=b->w=k):=by
     refine⟨λhab=>?_,λhab=>?_⟩
     ·by_cases hbi2:i<b
      ·have hw1:w=-1:=by omega
       have e:(S.drop a).take (b-a)=(S.drop a).take (i-a)++((S.drop a).drop (i-a)).take (b-i):=by
        rw[show b-a=(i-a)+(b-i) by omega,List.take_add]
       rw[e]
       unfold S3 at hw ⊢
       rw[A2I,<- hw,hw1]
       exact(B82 _).symm
      ·rw[hw,show i=b by omega]
     ·rw[hw,show i=a by omega,hz0]
    obtain⟨hf1,hf2⟩:=hfin
    have hcond:¬((i:Int)<b)\/w<0:=by omega
    by_cases hib1:i<b
    ·have hw1:w=-1:=by omega
     have hab:¬(b<a):=by omega
     have hqw:q=w:=by rw[hq,if_pos (by omega),<- hf1 (by omega)]
     subst hqw
     subst hw1
     clear zTg zSg zev hf1 hf2 hw hq
     repeat' first|refine st ?_|(with_reducible first|apply A5|apply A4)<;>intro _
     refine F7 A6 A8V A8T (λ(j:Nat)=>[.d (eI (-1)),.d (eI a)]) (λj=>[.cells [.d (.str nm),.d dc,.d dk,.d df,.d dx]]) (λj=>True) (λj=>j) 0 rfl rfl rfl rfl (λ_ _=>⟨rfl,rfl⟩) rfl trivial ?_
     repeat' first|refine st ?_|(with_reducible first|apply A5|apply A4)<;>intro _
     intro j _
     repeat' first|refine st ?_|(with_reducible first|apply A5|apply A4)<;>intro _
     all_goals rfl
    ·by_cases hab:a<=b
     ·have hqw:q=w:=by rw[hq,if_pos (by omega),<- hf1 hab]
      subst hqw
      clear zTg zSg zev hf1 hf2 hw hq
      repeat' first|refine st ?_|(with_reducible first|apply A5|apply A4)<;>intro _
      refine F7 A6 A8V A8T (λ(j:Nat)=>[.d (eI q),.d (eI a)]) (λj=>[.cells [.d (.str nm),.d dc,.d dk,.d df,.d dx]]) (λj=>True) (λj=>j) 0 rfl rfl rfl rfl (λ_ _=>⟨rfl,rfl⟩) rfl trivial ?_
      repeat' first|refine st ?_|(with_reducible first|apply A5|apply A4)<;>intro _
      intro j _
      repeat' first|refine st ?_|(with_reducible first|apply A5|apply A4)<;>intro _
      all_goals rfl
     ·have hwk:w=k:=hf2 hab
      subst hwk
      have hq:q=T8 ((S.drop b).take (a-b)) w:=by rw[hq,if_neg (by omega)]
      clear hf1 hf2 hw hbf hbi hcond
      have hz1:T8 ((S.drop a).take (a-a)) w=w:=by simp[T8]
      repeat' first|refine st ?_|(with_reducible first|apply A5|apply A4)<;>intro _
      refine F7 A6 A8V A8T (λ(j:Nat)=>[.d (eI (T8 ((S.drop j).take (a-j)) w)),.d (eI j)]) (λj=>[.cells [.d (.str nm),.d dc,.d dk,.d df,.d dx]]) (λj=>b<=j/\j<=a) (λj=>j) a rfl rfl (by rw[hz1];rfl) rfl (λ_ _=>⟨rfl,rfl⟩) rfl ⟨by omega,G9 _⟩ ?_
      repeat' first|refine st ?_|(with_reducible first|apply A5|apply A4)<;>intro _
      intro j ⟨g9,g10⟩
      have hbj:=hbb j
      have hblj:=hbbl j
      obtain⟨u,hu⟩:∃u,u=T8 ((S.drop j).take (a-j)) w:=⟨_,rfl⟩
      rw[<- hu] at hbj ⊢
      by_cases hjb:b<j/\0<=u
      ·obtain⟨hjb,hu0⟩:=hjb
       obtain⟨p,rfl⟩:∃p,j=p+1:=⟨j-1,by omega⟩
       obtain⟨c,hc⟩:∃c,l[p]?=some c:=⟨_,C8 (by omega)⟩
       obtain⟨y,hy1,hy2,hy3⟩:=zTg p (by omega)
       have hI:=C1X y hy2 c u (by omega) (by omega)
       rw[C97 hy3 c u] at hI
       have hsn:=A9S S a p _ w (by omega) (zSg p c hc)
       rw[<- hu] at hsn
       have hsm:T8 ((S.drop p).take (a-p)) w=Z7 (cx p).t c u:=hsn
       obtain⟨w2,hw2⟩:∃z,z=Z7 (cx p).t c u:=⟨_,rfl⟩
       rw[<- hw2] at hI hsm
       have hgl:=hgc p c hc
       have K9:((((p+1:Nat):Int))-1).toNat=p:=by omega
       have hy1':Ts[((((p+1:Nat):Int))-1).toNat]?=some [.str y.t.nm,y.dc,y.dk,y.df,y.dx]:=by rw[K9];exact hy1
       have hgl':es[((((p+1:Nat):Int))-1).toNat]?=some (A1K c):=by rw[K9];exact hgl
       have hil:(((p+1:Nat):Int))-1<es.length:=by omega
       have hil2:(((p+1:Nat):Int))-1<Ts.length:=by omega
       obtain⟨ck,cnm,to,⟨cn,cck,cl⟩,⟨vk,vn,vs⟩⟩:=c
       clear hu zTg zSg zev hbb hbbl
       repeat' first|refine st ?_|((with_reducible first|apply A8|apply A7);(·exact hI))|(with_reducible first|apply A5|apply A4)<;>intro _
       refine⟨p,?_,rfl,rfl,by omega,by omega,by omega⟩
       rw[hsm,show((p+1:Nat):Int)-1=p by omega]
      ·have hqu:q=u:=by
        by_cases hjb2:b<j
        ·have hu1:u=-1:=by omega
         have e:(S.drop b).take (a-b)=(S.drop b).take (j-b)++(S.drop j).take (a-j):=by
          rw[show a-b=(j-b)+(a-j) by omega,List.take_add,List.drop_drop,show b+(j-b)=j by omega]
         rw[hq,e]
         unfold T8 at hu ⊢
         rw[List.foldr_append,<- hu,hu1]
         refine B6L _ λs hs=>?_
         obtain⟨n,hn⟩:=A1A.1 (W3 hs)
         rw[A03] at hn
         have hnl:=(B3.1 hn).1
         obtain⟨c,hc⟩:∃c,l[b+n]?=some c:=⟨_,C8 (by omega)⟩
         have h3:=zSg _ c hc
         rw[hn] at h3
         rw[j7 h3]
         exact B6F (zev _ c hc)
        ·rw[hq,hu,show j=b by omega]
       rw[hqu]
       have hcj:¬((b:Int)<j)\/u<0:=by omega
       by_cases hjb1:b<j
       ·have hu1:u<0:=by omega
        clear hu zTg zSg zev hbb hbbl hq hqu
        repeat' first|refine st ?_|(with_reducible first|apply A5|apply A4)<;>intro _
        all_goals rfl
       ·clear hu zTg zSg zev hbb hbbl hq hqu
        repeat' first|refine st ?_|(with_reducible first|apply A5|apply A4)<;>intro _
        all_goals rfl
end Go.Proofs
end
section
namespace Go.Bi
open Go Go.Proofs Go.Shelf
def dvn:D->Option Value
 |.nil=>some (.slice none 0 0)
 |d=>dv d
theorem D2K{M:C5}{d:D}{u v:Value}(h:dvn d=some u)(r:Rd M d v):v=u:=by
 cases r<;>simp[dvn,dv] at h<;>exact h
theorem B6v{M:C5}{G:Gh}{os:List AO}{ds:List D}{us:List Value}{vs:Array Value}(hl:ds.map dvn=us.map some)(hl':vs.size=(ds.map AV.d).length)(hv:∀(j:Nat) a v,(ds.map AV.d)[j]?=some a->vs[j]?=some v->VG M G os a v):vs=us.toArray:=by
 have hll:ds.length=us.length:=by have:=congrArg List.length hl;simpa using this
 have hsz:vs.size=us.length:=by rw[hl',D5,hll]
 refine Array.ext (by simpa using hsz) λj h1 h2=>?_
 have hj:j<ds.length:=by omega
 have hj2:j<us.length:=by omega
 have k1:=hv j (.d ds[j]) vs[j] (by simp[hj]) (J5 h1)
 have k2:dvn ds[j]=some us[j]:=by
  have:=congrArg (λl=>l[j]?) hl
  simpa[hj,hj2] using this
 have k3:=D2K k2 k1
 simpa using k3
end Go.Bi
namespace Go.Proofs
open Go.Bi Go.Shelf
theorem D0Y:∃i z,Tryz.prog.info? (Tryz.growV_ren.t 25)=some i/\i.zero=some z/\i.size=3/\i.bytes=32/\z.cells.size=3:=by
 have h:(match Tryz.prog.info? (Tryz.growV_ren.t 25) with
  |some i=>(match i.zero with
   |some z=>decide (i.size=3)&&decide (i.bytes=32)&&decide (z.cells.size=3)
   |none=>false)
  |none=>false)=true:=by kernel_rfl
 split at h
 ·rename_i i hi
  split at h
  ·rename_i z hz
   simp only[L2,decide_eq_true_eq] at h
   exact⟨i,z,hi,hz,h.1.1,h.1.2,h.2⟩
  ·cases h
 ·cases h
theorem B7k:Bi.Enters Tryz.prog B61:=⟨_,Tryz.func105,by kernel_rfl,by decide⟩
theorem C2f(n:Nat)(hn:n<=4194304):B5 Tryz.prog B61 [.d .nil,.d (eI n)] [] (λr os=>r=.arr 0 0/\os=[.arr [] 3 0 (decide (n=0))]):=by
 by_cases h0:n=0
 ·subst h0
  refine B5.own_nil 3 (by decide) ?_
  refine⟨B7k,λM G w vs hE hl hv=>?_⟩
  obtain rfl:=B6v (ds:=[.nil,eI (0:Nat)]) (us:=[.slice none 0 0,.int .i64 (0:Nat)]) rfl hl hv
  refine(Any8.slices_Grow_room Tryz.growV none 0 0 0 w (by omega) (by omega) (by omega) (by omega)).mono ?_
  rintro e w' ⟨rfl,rfl⟩
  exact⟨_,rfl,M,G,.d .nil,[],hE,E1.refl ..,.nil,rfl,rfl⟩
 ·rw[decide_eq_false h0]
  refine⟨B7k,λM G w vs hE hl hv=>?_⟩
  obtain rfl:=B6v (ds:=[.nil,eI (n:Nat)]) (us:=[.slice none 0 0,.int .i64 (n:Nat)]) rfl hl hv
  obtain⟨i,z,h1,h2,h3,h4,h5⟩:=D0Y
  refine(Any8.slices_Grow_grow Tryz.growV i z h1 h2 (by omega) none 0 0 n [] w (by omega) (by omega) (by rw[h4];omega) (by omega) (by simp) (λ_=>rfl) (λa ha=>by cases ha)).mono ?_
  rintro e w' ⟨rfl,rfl⟩
  obtain⟨c,hc⟩:∃c,c=grownCap w (0+n) 0 (Tryz.growV_ren.t 25):=⟨_,rfl⟩
  have hge:0+n<=c:=by rw[hc];exact grownCap_ge ..
  have hle:c<=maxLen:=by rw[hc];exact grownCap_le_maxLen _ _ _ _ (by unfold maxLen;omega)
  rw[<- hc]
  obtain⟨ob,hob⟩:∃ob,ob=Obj.cells (([]:List Value).toArray++Builtin.zeroCells z.cells (0+n-0)++Builtin.zeroCells z.cells (c-(0+n))) (Tryz.growV_ren.t 25):=⟨_,rfl⟩
  rw[<- hob]
  have hor:OR M (G.ext ([]:List AO).length w.drew.heap.size c) ([]++[.arr [] 3 0 false]) (w.drew.alloc ob) ([]:List AO).length (.arr [] 3 0 false):=by
   refine⟨by omega,by simp,by simp,λh=>(by cases h),λ_=>⟨_,_,by rw[show(G.ext ([]:List AO).length w.drew.heap.size c).blk ([]:List AO).length=w.drew.heap.size by simp[Gh.ext],hob];exact u4 w.drew _,?_,by simp,by simpa[Gh.ext] using hle,λi j y x hi hj=>by simp at hi,λk hk=>by omega⟩⟩
   simp only[Array.size_append,size_zeroCells,h5,Gh.ext,if_true,A2P,P9]
   omega
  have e1:=A1P hE.drew (.arr [] 3 0 false) ob c (λa v h=>s9 a v h) hor (λ_ es sz frz nl h=>by cases h;rfl)
  have s1:=(A1Y M G [] w).trans (A0Q hE.drew (.arr [] 3 0 false) ob c)
  refine⟨_,rfl,M,_,.arr 0 0,_,e1,s1,⟨rfl,[],3,0,false,rfl,G9 _,λ_=>?_⟩,rfl,rfl⟩
  simp[Gh.slv,Gh.ext]
end Go.Proofs
end
section
namespace Go.Proofs
open Go.Bi
def S1(L:List (D×List (List D))):List (List D):=(L.map (·.2)).flatten
theorem B6Q{L:List (D×List (List D))}{i:Nat}{p:D×List (List D)}(h:L[i]?=some p):S1 (L.take (i+1))=S1 (L.take i)++p.2:=by
 unfold S1
 rw[Q9,h];simp
theorem C9o(L:List (D×List (List D)))(i:Nat):(S1 (L.take i)).length<=(S1 L).length:=by
 have e:S1 L=S1 (L.take i)++S1 (L.drop i):=by unfold S1;rw[<- List.flatten_append,<- A4V,List.take_append_drop]
 rw[e,K4];omega
theorem B25(L:List (D×List (List D)))(hLl:L.length<=1000)(hL:∀p∈L,B8 p.1 p.2/\∀e∈p.2,e.length=3)(hT:(S1 L).length<=4194304) :
  B5 Tryz.prog A7f [.d (.sl (L.map λp=>[p.1]))] [] (λr os=>r=.arr 0 (S1 L).length/\os=[.arr (S1 L) 3 0 (decide ((S1 L).length=0))]):=by
 have hG:=C2f (S1 L).length hT
 obtain⟨n,hn⟩:∃n,n=(S1 L).length:=⟨_,rfl⟩
 have hle:∀i,(S1 (L.take i)).length<=n:=λi=>by rw[hn];exact C9o L i
 rw[<- hn] at hG hT ⊢
 obtain⟨b,hb⟩:∃b,b=decide (n=0):=⟨_,rfl⟩
 rw[<- hb] at hG ⊢
 have hEl:(L.map λp=>[p.1]).length=L.length:=D5 ..
 have hEg:∀(i:Nat) p,L[i]?=some p->(L.map λp=>[p.1])[i]?=some [p.1]:=λi p h=>by rw[G4,h];rfl
 have hEm:∀e∈(L.map λp=>[p.1]),e.length=1:=λe he=>by obtain⟨p,_,rfl⟩:=F1.1 he;rfl
 obtain⟨Es,hEs⟩:∃z,z=L.map λp=>[p.1]:=⟨_,rfl⟩
 rw[<- hEs] at hEl hEg hEm ⊢
 clear hEs
 refine C3W.goO A6 rfl ?_
 repeat' first|refine st ?_|(with_reducible first|apply A5|apply A4)<;>intro _
 refine F7 A6 C6j C5p (λ(i:Nat)=>[.d (eI (S1 (L.take i)).length),.d (eI i)]) (λi=>[]) (λi=>i<=L.length) (λi=>L.length-i) 0 rfl rfl rfl rfl (λ_ _=>⟨rfl,rfl⟩) rfl (T6 _) ?_
 repeat' first|refine st ?_|(with_reducible first|apply A5|apply A4)<;>intro _
 intro i h4
 have hli:=hle i
 cases hx:L[i]? with
 |some p=>
  have hlt:=(B3.1 hx).1
  have hg:=hEg i p hx
  have hs:=B6Q hx
  have hl2:=hle (i+1)
  obtain⟨h5,h6⟩:=hL p (C4 hx)
  have hs2:((S1 (L.take (i+1))).length:Int)=(S1 (L.take i)).length+p.2.length:=by rw[hs,K4];omega
  obtain⟨m,hm⟩:∃m,m=(S1 (L.take i)).length:=⟨_,rfl⟩
  rw[<- hm] at hs2 hli ⊢
  obtain⟨d,l⟩:=p
  dsimp only at hg hs2 h5 h6
  rcases h5 with ⟨rfl,rfl⟩|rfl
  ·repeat' first|refine st ?_|(with_reducible first|apply A5|apply A4)<;>intro _
   exact⟨i+1,by rw[hs2];rfl,rfl,rfl,by omega,by omega⟩
  ·repeat' first|refine st ?_|(with_reducible first|apply A5|apply A4)<;>intro _
   exact⟨i+1,by rw[hs2];rfl,rfl,rfl,by omega,by omega⟩
 |none=>
  have hge:=D8.1 hx
  rw[M7 hge,<- hn]
  repeat' first|refine st ?_|((with_reducible first|apply I0|apply D7);(·exact hG);(try rintro _ _ ⟨rfl,rfl⟩))|((with_reducible apply I8);(·exact hG))|((with_reducible apply H8);refine st ?_;(with_reducible apply I5);(·exact rfl);refine st ?_;(with_reducible apply D7);(·exact hG);(try rintro _ _ ⟨rfl,rfl⟩))|(with_reducible first|apply A5|apply A4)<;>intro _
  refine J1 A6 C6k C5q (λ(j:Nat) (A:List (List D))=>[.arr 0 A.length,.d (eI j)]) (λj A=>[.arr A 3 0 b]) (λj A=>j<=L.length/\A=S1 (L.take j)) (λj A=>L.length-j) 0 [] rfl rfl rfl rfl (λ_ _ _=>⟨rfl,rfl⟩) rfl ⟨T6 _,rfl⟩ ?_
  repeat' first|refine st ?_|(with_reducible first|apply A5|apply A4)<;>intro _
  intro j A ⟨g1,g2⟩
  have hlj:=hle j
  cases hy:L[j]? with
  |some p=>
   have hlt:=(B3.1 hy).1
   have hg:=hEg j p hy
   have hs:=B6Q hy
   have hl2:=hle (j+1)
   obtain⟨h5,h6⟩:=hL p (C4 hy)
   rw[<- g2] at hs hlj
   rw[hs,K4] at hl2
   obtain⟨d,l⟩:=p
   dsimp only at hg hs h5 h6 hl2
   have hbd:(A.length+l.length)*32<=140737488355328/\A.length+l.length<=9223372036854775807:=by omega
   rcases h5 with ⟨rfl,rfl⟩|rfl
   ·repeat' first|refine st ?_|(with_reducible first|apply A5|apply A4)<;>intro _
    all_goals exact⟨j+1,A++[],by simp,by simp,rfl,by omega,by omega,by rw[hs]⟩
   ·cases l with
    |nil=>
     repeat' first|refine st ?_|(with_reducible first|apply A5|apply A4)<;>intro _
     all_goals exact⟨j+1,A++[],by simp,by simp,rfl,by omega,by omega,by rw[hs]⟩
    |cons e r=>
     have hb0:b=false:=by rw[hb];exact decide_eq_false (by simp at hl2;omega)
     subst hb0
     repeat' first|refine st ?_|(with_reducible first|apply A5|apply A4)<;>intro _
     all_goals exact⟨j+1,A++e::r,rfl,rfl,rfl,by omega,by omega,by rw[hs]⟩
  |none=>
   have hge2:=D8.1 hy
   rw[M7 hge2] at g2
   have hAl:A.length=n:=by rw[g2,hn]
   subst g2
   repeat' first|refine st ?_|(with_reducible first|apply A5|apply A4)<;>intro _
   all_goals exact⟨by rw[hAl],rfl⟩
theorem A8E(row:List Vl)(ks:List Int)(hr:row.length<=1048576)(hk:ks.length<=1048577)(hrs:∀v∈row,v.s.length<=1048576)(dr:D)(hdr:B8 dr (B4 row))(dk:D)(hdk:B8 dk (A0 ks)):Pure Tryz.prog B65 [.d dr,.d dk] (.d (.bool (I1 row ks))):=by
 refine C42.go A6 rfl ?_
 have h1:=S6 row
 have hm:=k7 row
 have h2:=B7 ks
 have hm2:=D3 ks
 obtain⟨q,hq⟩:∃q,q=I1 row ks:=⟨_,rfl⟩
 rw[<- hq]
 by_cases hl:row.length=ks.length
 rotate_left
 ·have:q=false:=by rw[hq,I1,decide_eq_false hl];rfl
  rw[this]
  repeat' first|refine st ?_|((with_reducible apply C7);conv=>whnf)|(with_reducible first|apply A5|apply A4)<;>intro _
  all_goals first|rfl|(exfalso;omega)
 unfold I1 at hq
 rw[decide_eq_true hl,w6] at hq
 have hl2:(B4 row).length=(A0 ks).length:=by omega
 repeat' first|refine st ?_|((with_reducible apply C7);conv=>whnf)|(with_reducible first|apply A5|apply A4)<;>intro _
 refine F7 A6 C6m C5s (λ(i:Nat)=>[.d (eI i)]) (λi=>[]) (λi=>i<=row.length/\((row.zip ks).take i).all (λp=>R1 p.1 p.2)=true) (λi=>row.length-i) 0 rfl rfl rfl rfl (λ_ _=>⟨rfl,rfl⟩) rfl ⟨by omega,rfl⟩ ?_
 repeat' first|refine st ?_|((with_reducible apply C7);conv=>whnf)|(with_reducible first|apply A5|apply A4)<;>intro _
 intro i ⟨h4,h5⟩
 cases hx:row[i]? with
 |some v=>
  have hlt:=(B3.1 hx).1
  obtain⟨k,hkx⟩:∃k,ks[i]?=some k:=⟨_,C8 (by omega)⟩
  have hz:(row.zip ks)[i]?=some (v,k):=A8Q.2 ⟨hx,hkx⟩
  have hg:=A1O hx
  have hg2:=N4 hkx
  have hV:=A4O v (O9 (hrs v (C4 hx)) (by omega))
  have hs:=B6s (p:=λp=>R1 p.1 p.2) hz
  rw[h5,w6] at hs
  dsimp only at hs
  cases hv:J9 v with
  |false=>
   rw[hv] at hV
   have hb:R1 v k=false:=by rw[R1,hv];rfl
   have hf:=A7j (p:=λp=>R1 p.1 p.2) hz hb
   rw[hf] at hq
   repeat' first|refine st ?_|((with_reducible apply C7);conv=>whnf)|((with_reducible first|apply A8|apply A7);(·exact hV))|(with_reducible first|apply A5|apply A4)<;>intro _
   all_goals (rw[hq])
  |true=>
   rw[hv] at hV
   by_cases hk0:v.k=0
   ·have hb:R1 v k=true:=by rw[R1,hv,decide_eq_true hk0];rfl
    repeat' first|refine st ?_|((with_reducible apply C7);conv=>whnf)|((with_reducible first|apply A8|apply A7);(·exact hV))|(with_reducible first|apply A5|apply A4)<;>intro _
    all_goals exact⟨i+1,rfl,rfl,rfl,by omega,by omega,hs.trans hb⟩
   ·by_cases hkk:v.k=k
    ·have hb:R1 v k=true:=by rw[R1,hv,decide_eq_true hkk];simp
     repeat' first|refine st ?_|((with_reducible apply C7);conv=>whnf)|((with_reducible first|apply A8|apply A7);(·exact hV))|(with_reducible first|apply A5|apply A4)<;>intro _
     all_goals exact⟨i+1,rfl,rfl,rfl,by omega,by omega,hs.trans hb⟩
    ·have hb:R1 v k=false:=by rw[R1,hv,decide_eq_false hkk,decide_eq_false hk0];rfl
     have hf:=A7j (p:=λp=>R1 p.1 p.2) hz hb
     rw[hf] at hq
     repeat' first|refine st ?_|((with_reducible apply C7);conv=>whnf)|((with_reducible first|apply A8|apply A7);(·exact hV))|(with_reducible first|apply A5|apply A4)<;>intro _
     all_goals (rw[hq])
 |none=>
  have hge:=D8.1 hx
  rw[M7 (by rw[List.length_zip];omega)] at h5
  rw[h5] at hq
  repeat' first|refine st ?_|((with_reducible apply C7);conv=>whnf)|(with_reducible first|apply A5|apply A4)<;>intro _
  all_goals (rw[hq])
theorem A8u(l:List (List D))(hl:l.length<=1048577)(hm:∀e∈l,e.length=3)(d:D)(hd:B8 d l):B5 Tryz.prog A9q [.d d] [] (λr os=>r=.arr 0 l.length/\os=[.arr l 3 0 (A9 d)]):=by
 rcases hd with ⟨rfl,rfl⟩|rfl
 ·refine B5.own_nil 3 (by decide) ?_
  refine B2m.go A6 rfl ?_
  repeat' first|refine st ?_|((with_reducible apply C7);conv=>whnf)|(with_reducible first|apply A5|apply A4)<;>intro _
 ·refine B2m.goO A6 rfl ?_
  have h0:([]:List (List D)).length=0:=rfl
  have h00:(([]:List (List D))++l).length=l.length:=rfl
  have hb:(([]:List (List D)).length+l.length)*32<=140737488355328/\([]:List (List D)).length+l.length<=9223372036854775807:=by rw[h0];omega
  repeat' first|refine st ?_|((with_reducible apply C7);conv=>whnf)|(with_reducible first|apply A5|apply A4)<;>intro _
  all_goals (refine⟨rfl,?_⟩;cases l<;>rfl)
theorem A7W{P:Program}{f:FuncId}{args:List AV}{l:List (List D)}{sz frz:Nat}{nl:Bool}(h:B5 P f args [] (λr os=>r=.arr 0 l.length/\os=[.arr l sz frz nl])):Pure P f args (.d (C2 nl l)):=
 h.deepP λr os h1=>by
  obtain⟨rfl,rfl⟩:=h1
  exact .inl (.inl ⟨_,.inl (.inr ⟨0,l,sz,frz,nl,rfl,rfl,rfl⟩),rfl⟩)
theorem A6z(l:List (List D))(hl:l.length<=1048577)(hm:∀e∈l,e.length=3)(d:D)(hd:B8 d l):Pure Tryz.prog A9q [.d d] (.d d):=by
 have h:=A7W (A8u l hl hm d hd)
 rwa [O5 hd] at h
def jn(l:List (List D)):D:=C2 (decide (l.length=0)) l
theorem C0Z(d1 d2:D)(l1 l2:List (List D))(h1:B8 d1 l1)(h2:B8 d2 l2)(m1:∀e∈l1,e.length=3)(m2:∀e∈l2,e.length=3)(hT:l1.length+l2.length<=4194304) :
  Pure Tryz.prog A7f [.d (.sl [[d1],[d2]])] (.d (jn (l1++l2))):=by
 have e:S1 [(d1,l1),(d2,l2)]=l1++l2:=by simp[S1]
 have h:=A7W (B25 [(d1,l1),(d2,l2)] (by simp) (λp hp=>by simp at hp;rcases hp with rfl|rfl<;>first|exact⟨h1,m1⟩|exact⟨h2,m2⟩) (by rw[e,K4];exact hT))
 rw[e] at h
 exact h
theorem C10(d1 d2 d3:D)(l1 l2 l3:List (List D))(h1:B8 d1 l1)(h2:B8 d2 l2)(h3:B8 d3 l3)(m1:∀e∈l1,e.length=3)(m2:∀e∈l2,e.length=3)(m3:∀e∈l3,e.length=3)(hT:l1.length+l2.length+l3.length<=4194304) :
  Pure Tryz.prog A7f [.d (.sl [[d1],[d2],[d3]])] (.d (jn (l1++l2++l3))):=by
 have e:S1 [(d1,l1),(d2,l2),(d3,l3)]=l1++l2++l3:=by simp[S1]
 have h:=A7W (B25 [(d1,l1),(d2,l2),(d3,l3)] (by simp) (λp hp=>by simp at hp;rcases hp with rfl|rfl|rfl<;>first|exact⟨h1,m1⟩|exact⟨h2,m2⟩|exact⟨h3,m3⟩) (by rw[e,K4,K4];exact hT))
 rw[e] at h
 exact h
theorem B26(d1 d2:D)(l1 l2:List (List D))(h1:B8 d1 l1)(h2:B8 d2 l2)(m1:∀e∈l1,e.length=3)(m2:∀e∈l2,e.length=3)(hT:l1.length+l2.length<=4194304) :
  Pure Tryz.prog B64 [.d d1,.d d2] (.d (jn (l1++l2))):=by
 have h:=C0Z d1 d2 l1 l2 h1 h2 m1 m2 hT
 obtain⟨q,hq⟩:∃q,q=jn (l1++l2):=⟨_,rfl⟩
 rw[<- hq] at h ⊢
 refine C41.go A6 rfl ?_
 repeat' first|refine st ?_|((with_reducible apply C7);conv=>whnf)|((with_reducible first|apply A8|apply A7);(·exact h))|(with_reducible first|apply A5|apply A4)<;>intro _
 all_goals rfl
theorem C1v(f:FuncId)(l:List (List D))(hl:l.length<=1048577)(hm:∀e∈l,e.length=3)(i:Nat)(v w:Vl)(hv:l[i]?=some v.ds)(hf:Pure Tryz.prog f [eV v] (eV w)):Pure Tryz.prog A9m [.d (.sl l),.d (eI i),.d (.fn f)] (.d (.sl (l.set i w.ds))):=by
 have hC:=A8u l hl hm (.sl l) (.inr rfl)
 have hlt:=(B3.1 hv).1
 have hsl:(l.set i w.ds).length=l.length:=by simp
 refine A7W (l:=l.set i w.ds) (sz:=3) (frz:=0) (nl:=false) ?_
 refine B2h.goO A6 rfl ?_
 repeat' first|refine st ?_|((with_reducible apply C7);conv=>whnf)|((with_reducible first|apply A8|apply A7);(·exact hf))|((with_reducible first|apply I0|apply D7);(·exact hC);(try rintro _ _ ⟨rfl,rfl⟩))|((with_reducible apply I8);(·exact hC))|((with_reducible apply H8);refine st ?_;(with_reducible apply I5);(·exact rfl);refine st ?_;(with_reducible apply D7);(·exact hC);(try rintro _ _ ⟨rfl,rfl⟩))|(with_reducible first|apply A5|apply A4)<;>intro _
 all_goals exact⟨by rw[hsl];rfl,rfl⟩
def z7(v:Vl):Vl:=if v.k=0 then v else A4v (r7 v)
def bkV(k:Int)(v:Vl):Vl:=if (Z2 v.s).2≠0\/v.k≠2\/(Z2 v.s).1.k≠k then F2 else (Z2 v.s).1
theorem D3o{v:Vl}(h:J9 v=true):J9 (z7 v)=true/\((z7 v).k=0\/(z7 v).k=2):=by
 unfold z7
 split
 ·exact⟨h,.inl (by assumption)⟩
 ·exact⟨D3D _,(D3C _).symm⟩
theorem D2x(r:List UInt8)(h:(y7 r).2=0):J9 (y7 r).1=true:=by
 unfold y7 at *
 split at h
 ·cases h
 ·rename_i h1
  rw[if_neg h1]
  have hp:V8 r.dropLast=true:=by
   cases e:V8 r.dropLast with
   |true=>rfl
   |false=>exact absurd (.inr e) h1
  split at h
  ·cases h
  ·rename_i t hu
   split at h
   ·cases h
   ·rename_i h2
    simp only[if_neg h2]
    have:=A8h _ _ hu
    unfold J9
    simp[this,hp]
    omega
theorem D2v(s:List UInt8)(h:(A0n s).2=0):J9 (A0n s).1=true:=by
 unfold A0n at *
 generalize (if K9 45 s=true then s.tail else s)=d at *
 generalize K9 45 s=g at *
 split at h
 ·cases h
 ·rename_i h1
  simp only[if_neg h1]
  split at h
  ·cases h
  ·rename_i n hu
   split at h
   ·cases h
   ·rename_i h2
    simp only[if_neg h2]
    have:=(A5Y _ _ _ (Int.le_refl _) hu).1
    unfold J9
    simp
    split<;>omega
theorem D3E(s:List UInt8)(h:(Z2 s).2=0):J9 (Z2 s).1=true:=by
 unfold Z2 at *
 split
 ·rfl
 ·rename_i h1
  rw[if_neg h1] at h
  split
  ·rfl
  ·rename_i h2
   rw[if_neg h2] at h
   split
   ·rfl
   ·rename_i h3
    rw[if_neg h3] at h
    split
    ·rename_i h4
     rw[if_pos h4] at h
     exact D2x _ h
    ·rename_i h4
     rw[if_neg h4] at h
     exact D2v _ h
theorem C98(k:Int)(v:Vl):J9 (bkV k v)=true/\((bkV k v).k=0\/(bkV k v).k=k):=by
 unfold bkV
 split
 ·exact⟨rfl,.inl rfl⟩
 ·rename_i h
  refine⟨D3E _ ?_,.inr ?_⟩
  ·by_cases e:(Z2 v.s).2=0
   ·exact e
   ·exact absurd (.inl e) h
  ·by_cases e:(Z2 v.s).1.k=k
   ·exact e
   ·exact absurd (.inr (.inr e)) h
theorem A7x(row:List Vl)(ks:List Int):I1 row ks=true↔row.length=ks.length/\∀(i:Nat) v k,row[i]?=some v->ks[i]?=some k->J9 v=true/\(v.k=0\/v.k=k):=by
 unfold I1
 rw[L2,decide_eq_true_eq,M5]
 refine and_congr_right λhl=>⟨λh i v k h1 h2=>?_,λh p hp=>?_⟩
 ·have:=h (v,k) (C4 (A8Q.2 ⟨h1,h2⟩:(row.zip ks)[i]?=some (v,k)))
  unfold R1 at this
  simpa using this
 ·obtain⟨i,hi⟩:=A1A.1 hp
  obtain⟨h1,h2⟩:=A8Q.1 hi
  have:=h i p.1 p.2 h1 h2
  unfold R1
  simpa using this
theorem l0{row:List Vl}{ks:List Int}(h:I1 row ks=true):row.length=ks.length/\∀v∈row,v.s.length<=200:=by
 obtain⟨h1,h2⟩:=(A7x _ _).1 h
 refine⟨h1,λv hv=>?_⟩
 obtain⟨i,hi⟩:=A1A.1 hv
 have hlt:=(B3.1 hi).1
 obtain⟨k,hk⟩:∃k,ks[i]?=some k:=⟨_,C8 (by omega)⟩
 have h3:=(h2 i v k hi hk).1
 unfold J9 at h3
 split at h3
 ·rw[(of_decide_eq_true h3).2];simp
 split at h3
 ·rw[(of_decide_eq_true h3).1];simp
 split at h3
 ·rw[L2] at h3;exact(of_decide_eq_true h3.1).2
 split at h3
 ·rw[(of_decide_eq_true h3).1];simp
 ·cases h3
def X8(t:Tb)(c:Ch)(row:List Vl):List Vl:=
 if c.k=1 then row++[c.df] else if c.k=2 then row.eraseIdx (D6 c.nm t.cs).toNat
 else if c.k=4 then row.set (D6 c.nm t.cs).toNat (z7 (row.getD (D6 c.nm t.cs).toNat F2)) else row
def X6(t:Tb)(c:Ch)(row:List Vl):List Vl:=
 if c.k=1 then row.take t.cs.length else if c.k=2 then row.take (D6 c.nm t.cs).toNat++F2::row.drop (D6 c.nm t.cs).toNat
 else if c.k=4 then row.set (D6 c.nm t.cs).toNat (bkV (Z8 t (D6 c.nm t.cs)) (row.getD (D6 c.nm t.cs).toNat F2)) else row
theorem W9(l:List Co)(i:Nat):(kd l)[i]?=(l[i]?).map Co.k:=by unfold kd;rw[G4]
theorem D0I{t:Tb}{c:Ch}(h:D2 t c=0){row:List Vl}(hf:I1 row (kd t.cs)=true):I1 (X8 t c row) (kd (D9 t c).cs)=true:=by
 obtain⟨q1,q2,q3,q4,q5⟩:=k8 h
 rw[A7x] at hf ⊢
 obtain⟨hl,hf⟩:=hf
 rw[O3] at hl
 unfold X8 D9
 by_cases k1:c.k=1
 ·obtain⟨a1,a2,a3,a4,a5,a6,a7⟩:=B6p (q4 k1)
  rw[if_pos k1,if_pos k1]
  refine⟨by rw[O3];simp[hl],λi v k h1 h2=>?_⟩
  rw[W9] at h2
  by_cases hi:i<row.length
  ·rw[J7 hi] at h1
   rw[J7 (by omega),<- W9] at h2
   exact hf i v k h1 h2
  ·rw[P5 (by omega)] at h1
   rw[P5 (by omega)] at h2
   have hi0:i-row.length=0:=by
    have:=(B3.1 h1).1
    simp at this;omega
   rw[hi0] at h1
   rw[<- hl,hi0] at h2
   cases h1
   cases h2
   exact⟨a5,by
    by_cases e:c.df.k=0
    ·exact .inl e
    ·exact .inr (a7 e)⟩
 ·obtain⟨i,co,hi,hco,hcn,hus,h4,h3⟩:=x9 (q5 k1)
  have hil:=(B3.1 hco).1
  have hiN:(D6 c.nm t.cs).toNat=i:=by omega
  rw[if_neg k1,if_neg k1,hiN]
  by_cases k2:c.k=2
  ·rw[if_pos k2,if_pos k2]
   refine⟨by rw[O3,A0V,A0V];simp[hl],λj v k h1 h2=>?_⟩
   rw[W9] at h2
   dsimp only at h2
   rw[A3C] at h1 h2
   split at h1
   ·rw[if_pos (by assumption),<- W9] at h2
    exact hf j v k h1 h2
   ·rw[if_neg (by assumption),<- W9] at h2
    exact hf (j+1) v k h1 h2
  ·rw[if_neg k2,if_neg k2]
   have e:t.cs.getD i ⟨[],0,false⟩=co:=A7H hco
   by_cases k3:c.k=3
   ·rw[if_neg (by omega),if_pos k3,e]
    refine⟨by rw[O3];simp[hl],λj v k h1 h2=>?_⟩
    rw[W9] at h2
    dsimp only at h2
    by_cases hj:i=j
    ·subst hj
     rw[A05 hil] at h2
     refine hf i v k h1 ?_
     rw[W9,hco];exact h2
    ·rw[P2 hj,<- W9] at h2
     exact hf j v k h1 h2
   ·have k4:c.k=4:=by omega
    rw[if_pos k4,if_neg k3,e]
    refine⟨by rw[O3];simp[hl],λj v k h1 h2=>?_⟩
    rw[W9] at h2
    dsimp only at h2
    by_cases hj:i=j
    ·subst hj
     rw[A05 hil] at h2
     rw[A05 (by omega)] at h1
     cases h1;cases h2
     obtain⟨w,hw⟩:∃w,row[i]?=some w:=⟨_,C8 (by omega)⟩
     rw[E7,hw]
     exact D3o (hf i w co.k hw (by rw[W9,hco];rfl)).1
    ·rw[P2 hj,<- W9] at h2
     rw[P2 hj] at h1
     exact hf j v k h1 h2
theorem D0H{t:Tb}{c:Ch}(h:D2 t c=0){row:List Vl}(hf:I1 row (kd (D9 t c).cs)=true):I1 (X6 t c row) (kd t.cs)=true:=by
 obtain⟨q1,q2,q3,q4,q5⟩:=k8 h
 rw[A7x] at hf ⊢
 obtain⟨hl,hf⟩:=hf
 rw[O3] at hl
 unfold X6
 unfold D9 at hl hf
 by_cases k1:c.k=1
 ·rw[if_pos k1] at hl hf ⊢
  dsimp only at hl hf
  rw[K4,A2N] at hl
  refine⟨by rw[O3,L6];omega,λi v k h1 h2=>?_⟩
  have hi:=(B3.1 h2).1
  rw[O3] at hi
  rw[A6S hi] at h1
  refine hf i v k h1 ?_
  rw[W9,J7 hi,<- W9]
  exact h2
 ·obtain⟨i,co,hi,hco,hcn,hus,h4,h3⟩:=x9 (q5 k1)
  have hil:=(B3.1 hco).1
  have hiN:(D6 c.nm t.cs).toNat=i:=by omega
  rw[if_neg k1,hiN] at hl hf
  rw[if_neg k1,hiN,hi]
  by_cases k2:c.k=2
  ·rw[if_pos k2] at hl hf ⊢
   dsimp only at hl hf
   rw[A0V,if_pos hil] at hl
   refine⟨by rw[O3];simp only[K4,L6,I7,Y4];omega,λj v k h1 h2=>?_⟩
   have hjl:=(B3.1 h2).1
   rw[O3] at hjl
   rw[W9] at h2
   by_cases hj:j<i
   ·rw[J7 (by rw[L6];omega),A6S hj] at h1
    refine hf j v k h1 ?_
    rw[W9,A3C,if_pos hj];exact h2
   ·rw[P5 (by rw[L6];omega),L6,A5b (by omega)] at h1
    by_cases hji:j=i
    ·subst hji
     rw[A2W] at h1
     cases h1
     exact⟨rfl,.inl rfl⟩
    ·obtain⟨p,rfl⟩:∃p,j=p+1:=⟨j-1,by omega⟩
     rw[show p+1-i=(p-i)+1 by omega,j0,A03,show i+(p-i)=p by omega] at h1
     refine hf p v k h1 ?_
     rw[W9,A3C,if_neg (by omega)];exact h2
  ·rw[if_neg k2] at hl hf ⊢
   have e:t.cs.getD i ⟨[],0,false⟩=co:=A7H hco
   by_cases k3:c.k=3
   ·rw[if_pos k3,e] at hl hf
    rw[if_neg (by omega)]
    dsimp only at hl hf
    rw[U4] at hl
    refine⟨by rw[O3];exact hl,λj v k h1 h2=>?_⟩
    refine hf j v k h1 ?_
    rw[W9] at h2 ⊢
    by_cases hj:i=j
    ·subst hj
     rw[A05 hil]
     rw[hco] at h2
     exact h2
    ·rw[P2 hj];exact h2
   ·have k4:c.k=4:=by omega
    rw[if_neg k3,e] at hl hf
    rw[if_pos k4]
    dsimp only at hl hf
    rw[U4] at hl
    refine⟨by rw[O3,U4];exact hl,λj v k h1 h2=>?_⟩
    rw[W9] at h2
    by_cases hj:i=j
    ·subst hj
     rw[A05 (by omega)] at h1
     cases h1
     rw[hco] at h2
     cases h2
     have hck:Z8 t (i:Int)=co.k:=by unfold Z8;rw[G8,hco]
     rw[hck]
     exact C98 _ _
    ·rw[P2 hj] at h1
     refine hf j v k h1 ?_
     rw[W9,P2 hj];exact h2
theorem D0R{t u:Tb}(h:nf t=nf u)(c:Ch)(row:List Vl):X8 t c row=X8 u c row:=by
 have e:t.cs=u.cs:=by unfold nf at h;injection h
 unfold X8
 rw[e]
theorem C9g{t u:Tb}(h:nf t=nf u)(c:Ch)(row:List Vl):X6 t c row=X6 u c row:=by
 have e:t.cs=u.cs:=by unfold nf at h;injection h
 unfold X6 Z8
 rw[e]
theorem C01(v:Vl)(hs:v.s.length<=1048576):(r7 v).length<=4194304:=by
 unfold r7
 split
 ·simp
 ·rename_i hv
  split
  ·rename_i hk
   have h:=B1r (by simpa using hv) hk
   have:=Lib.itoa_length_le v.n (by omega) (by omega)
   omega
  ·split
   ·have:=A7Z v.s
    simp only[K4,I7,P9];omega
   ·split
    ·split<;>simp
    ·simp
theorem A7u(l:List Vl)(i:Nat)(v:Vl):(B4 l).set i v.ds=B4 (l.set i v):=by simp[B4]
theorem A2n(a b:List Vl):B4 a++B4 b=B4 (a++b):=by simp[B4]
theorem A42(l:List Vl)(i:Nat):(B4 l).take i=B4 (l.take i):=by simp[B4]
theorem A7t(l:List Vl)(i:Nat):(B4 l).drop i=B4 (l.drop i):=by simp[B4]
theorem C1p(v:Vl)(hs:v.s.length<=1048576):Pure Tryz.prog A9o [eV v] (eV (z7 v)):=by
 have hL:=C2p v hs
 have hT:=C2r (r7 v) (O9 (C01 v hs) (by omega))
 obtain⟨q,hq⟩:∃q,q=z7 v:=⟨_,rfl⟩
 rw[<- hq]
 unfold z7 at hq
 obtain⟨l,hl⟩:∃l,l=r7 v:=⟨_,rfl⟩
 rw[<- hl] at hL hT hq
 clear hl
 obtain⟨k,n,s⟩:=v
 dsimp only at hq
 by_cases h0:k=0
 ·rw[if_pos h0] at hq
  subst hq
  refine B2i.go A6 rfl ?_
  repeat' first|refine st ?_|((with_reducible first|apply A8|apply A7);(·first|exact hL|exact hT))|(with_reducible first|apply A5|apply A4)<;>intro _
  all_goals rfl
 ·rw[if_neg h0] at hq
  rw[<- hq] at hT
  clear hq
  refine B2i.go A6 rfl ?_
  repeat' first|refine st ?_|((with_reducible first|apply A8|apply A7);(·first|exact hL|exact hT))|(with_reducible first|apply A5|apply A4)<;>intro _
  all_goals rfl
theorem B1Q(s:St)(h:s.x.ok)(hq:D2 s.x.t s.c=0)(row:List Vl)(hf:I1 row (kd s.x.t.cs)=true):Pure Tryz.prog B5T [s.av,.d (.sl (B4 row))] (.d (.sl (B4 (X8 s.x.t s.c row)))):=by
 have hP:=A8z s h
 obtain⟨q1,q2,q3,q4,q5⟩:=k8 hq
 have hv:=r6.1 q1
 obtain⟨hl,hb⟩:=l0 hf
 rw[O3] at hl
 have hl1:1<=row.length/\row.length<=12:=by have:=hv.l1;have:=hv.l2;omega
 have he:=S6 row
 have hm:=k7 row
 obtain⟨q,hqq⟩:∃q,q=X8 s.x.t s.c row:=⟨_,rfl⟩
 rw[<- hqq]
 unfold X8 at hqq
 unfold plI at hP
 by_cases k1:s.c.k=1
 ·rw[if_pos k1] at hqq hP
  have hT:=B26 (.sl (B4 row)) (.sl [s.c.df.ds]) (B4 row) [s.c.df.ds] O6 O6 hm (λe he=>by cases A0X.1 he;rfl) (by simp only[A2N];omega)
  have hj:jn (B4 row++[s.c.df.ds])=.sl (B4 q):=by
   have e:B4 row++[s.c.df.ds]=B4 q:=by rw[hqq,<- A2n];rfl
   rw[e]
   unfold jn C2
   rw[decide_eq_false,if_neg (by decide)]
   rw[S6,hqq];simp
  rw[hj] at hT
  clear hj hqq hf hb hq q1 q3 q4 q5 hv h
  obtain⟨⟨⟨nm,cs,ks,fs,xs⟩,dc,dk,df,dx⟩,y,⟨ck,cnm,to,⟨cn,cck,cl⟩,⟨vk,vn,vs⟩⟩⟩:=s
  dsimp only at k1
  subst k1
  refine A6P.go A6 rfl ?_
  repeat' first|refine st ?_|((with_reducible first|apply A8|apply A7);(·first|exact hP|exact hT))|(with_reducible first|apply A5|apply A4)<;>intro _
  all_goals rfl
 ·obtain⟨i,co,hi,hco,hcn,hus,h4,h3⟩:=x9 (q5 k1)
  have hil:=(B3.1 hco).1
  rw[if_neg k1,hi,G8] at hqq
  rw[if_neg k1,hi] at hP
  by_cases k2:s.c.k=2
  ·rw[if_pos k2] at hqq
   obtain⟨d1,hd1⟩:∃z,z=((B4 row).drop (0:Int).toNat).take (((i:Nat):Int).toNat-(0:Int).toNat):=⟨_,rfl⟩
   obtain⟨d2,hd2⟩:∃z,z=((B4 row).drop (((i:Nat):Int)+1).toNat).take (((B4 row).length:Int).toNat-(((i:Nat):Int)+1).toNat):=⟨_,rfl⟩
   have e1:d1=B4 (row.take i):=by rw[hd1];simp[A42]
   have e2:d2=B4 (row.drop (i+1)):=by
    rw[hd2,show(((i:Nat):Int)+1).toNat=i+1 by omega,G8,M7 (by rw[Y4];exact G9 _),A7t]
   have hT:=B26 (.sl d1) (.sl d2) d1 d2 O6 O6 (by rw[e1];exact k7 _) (by rw[e2];exact k7 _) (by rw[e1,e2,S6,S6,L6,Y4];omega)
   have hj:jn (d1++d2)=.sl (B4 q):=by
    have e:d1++d2=B4 q:=by rw[e1,e2,hqq,A2n,<- List.eraseIdx_eq_take_drop_succ]
    rw[e]
    unfold jn C2
    rw[decide_eq_false,if_neg (by decide)]
    rw[S6,hqq,A0V,if_pos (by omega)]
    intro e0
    have hvT:=(A45 hq).l1
    unfold D9 at hvT
    rw[if_neg k1,if_pos k2] at hvT
    dsimp only at hvT
    rw[hi,G8,A0V,if_pos hil] at hvT
    omega
   rw[hj,hd1,hd2] at hT
   clear hj hqq hf hb hq q1 q3 q4 q5 hv h e1 e2 hd1 hd2
   obtain⟨⟨⟨nm,cs,ks,fs,xs⟩,dc,dk,df,dx⟩,y,⟨ck,cnm,to,⟨cn,cck,cl⟩,⟨vk,vn,vs⟩⟩⟩:=s
   dsimp only at k2 hl hil
   subst k2
   refine A6P.go A6 rfl ?_
   repeat' first|refine st ?_|((with_reducible first|apply A8|apply A7);(·first|exact hP|exact hT))|(with_reducible first|apply A5|apply A4)<;>intro _
   all_goals rfl
  ·rw[if_neg k2] at hqq
   by_cases k4:s.c.k=4
   ·rw[if_pos k4] at hqq
    obtain⟨v,hw⟩:∃v,row[i]?=some v:=⟨_,C8 (by omega)⟩
    have hgd:row.getD i F2=v:=by rw[E7,hw];rfl
    rw[hgd] at hqq
    have hX:=C1v A9o (B4 row) (by omega) hm i v (z7 v) (A1O hw) (C1p v (by have:=hb v (C4 hw);omega))
    rw[A7u,<- hqq] at hX
    clear hqq hf hb hq q1 q3 q4 q5 hv h hgd
    obtain⟨⟨⟨nm,cs,ks,fs,xs⟩,dc,dk,df,dx⟩,y,⟨ck,cnm,to,⟨cn,cck,cl⟩,⟨vk,vn,vs⟩⟩⟩:=s
    dsimp only at k4
    subst k4
    refine A6P.go A6 rfl ?_
    repeat' first|refine st ?_|((with_reducible first|apply A8|apply A7);(·first|exact hP|exact hX))|(with_reducible first|apply A5|apply A4)<;>intro _
    all_goals rfl
   ·rw[if_neg k4] at hqq
    subst hqq
    have hC:=A6z (B4 q) (by omega) hm (.sl (B4 q)) (.inr rfl)
    clear hf hb hq q1 q3 q4 q5 hv h
    obtain⟨⟨⟨nm,cs,ks,fs,xs⟩,dc,dk,df,dx⟩,y,⟨ck,cnm,to,⟨cn,cck,cl⟩,⟨vk,vn,vs⟩⟩⟩:=s
    dsimp only at k1 k2 k4
    refine A6P.go A6 rfl ?_
    repeat' first|refine st ?_|((with_reducible first|apply A8|apply A7);(·first|exact hP|exact hC))|(with_reducible first|apply A5|apply A4)<;>intro _
    all_goals rfl
theorem C1w(f:FuncId)(o0 o1:List AV)(l:List (List D))(hl:l.length<=1048577)(hm:∀e∈l,e.length=3)(i:Nat)(v w:Vl)(hv:l[i]?=some v.ds)
  (hf:B5 Tryz.prog f [eV v,.ptr 0 0,.ptr 1 0] [.cells o0,.cells o1,.arr l 3 0 false] (λr os=>r=eV w/\os=[.cells o0,.cells o1,.arr l 3 0 false])) :
  B5 Tryz.prog A9m [.d (.sl l),.d (eI i),.clo f [0,1]] [.cells o0,.cells o1] (λr os=>r=.arr 2 l.length/\os=[.cells o0,.cells o1,.arr (l.set i w.ds) 3 0 false]):=by
 have hC:=A8u l hl hm (.sl l) (.inr rfl)
 have hlt:=(B3.1 hv).1
 refine B2h.goO A6 rfl ?_
 repeat' first|refine st ?_|((with_reducible first|apply I0|apply D7);(·first|exact hC|exact hf);(try rintro _ _ ⟨rfl,rfl⟩))|((with_reducible apply I8);(·first|exact hC|exact hf))|((with_reducible apply H8);refine st ?_;(with_reducible apply I5);(·exact rfl);refine st ?_;(with_reducible apply D7);(·first|exact hC|exact hf);(try rintro _ _ ⟨rfl,rfl⟩))|(with_reducible first|apply A5|apply A4)<;>intro _
 all_goals exact⟨by first|rfl|simp,rfl⟩
theorem C0W(s:St)(h:s.x.ok)(hq:K8 s.x.t=0)(i:Nat)(co:Co)(hco:s.x.t.cs[i]?=some co)(l:List (List D))(v:Vl)(hs:v.s.length<=1048576) :
  B5 Tryz.prog A9n [eV v,.ptr 0 0,.ptr 1 0] [.cells [.d (.str s.x.t.nm),.d s.x.dc,.d s.x.dk,.d s.x.df,.d s.x.dx,.d (.str s.y.t.nm),.d s.y.dc,.d s.y.dk,.d s.y.df,.d s.y.dx,.d (eI s.c.k),.d (.str s.c.nm),.d (.str s.c.to),.d (.str s.c.co.nm),.d (eI s.c.co.k),.d (.bool s.c.co.nl),.d (eI s.c.df.k),.d (eI s.c.df.n),.d (.str s.c.df.s)],.cells [.d (eI i)],.arr l 3 0 false]
   (λr os=>r=eV (bkV co.k v)/\os=[.cells [.d (.str s.x.t.nm),.d s.x.dc,.d s.x.dk,.d s.x.df,.d s.x.dx,.d (.str s.y.t.nm),.d s.y.dc,.d s.y.dk,.d s.y.df,.d s.y.dx,.d (eI s.c.k),.d (.str s.c.nm),.d (.str s.c.to),.d (.str s.c.co.nm),.d (eI s.c.co.k),.d (.bool s.c.co.nl),.d (eI s.c.df.k),.d (eI s.c.df.n),.d (.str s.c.df.s)],.cells [.d (eI i)],.arr l 3 0 false]):=by
 have hP:=C2q v.s hs
 have hN:=A3v
 have hv:=r6.1 hq
 have hdc:=B05 h.tok hv
 have hcl:=F4 s.x.t.cs
 have hil:=(B3.1 hco).1
 have hg:(B2 s.x.t.cs)[((i:Nat):Int).toNat]?=some co.ds:=O2 hco
 have hb:(B2 s.x.t.cs).length<=12:=by have:=hv.l2;omega
 obtain⟨q,hqq⟩:∃q,q=bkV co.k v:=⟨_,rfl⟩
 rw[<- hqq]
 unfold bkV at hqq
 obtain⟨⟨⟨wk,wn,ws⟩,e⟩,hw⟩:∃z,z=Z2 v.s:=⟨_,rfl⟩
 rw[<- hw] at hP hqq
 dsimp only at hP hqq
 rw[hdc]
 obtain⟨Cs,hCs⟩:∃z,z=B2 s.x.t.cs:=⟨_,rfl⟩
 have hmC:=I4 s.x.t.cs
 rw[<- hCs] at hcl hg hb hmC ⊢
 clear hw hCs hq hv hco h hdc
 obtain⟨k,n,t⟩:=v
 obtain⟨⟨⟨nm,cs,ks,fs,xs⟩,dc,dk,df,dx⟩,y,⟨ck,cnm,to,⟨cn,cck,cl⟩,⟨vk,vn,vs⟩⟩⟩:=s
 obtain⟨con,cok,conl⟩:=co
 dsimp only at hqq hcl hil
 have hil2:(i:Int)<Cs.length:=by omega
 by_cases g1:e=0
 rotate_left
 ·rw[if_pos (.inl g1)] at hqq
  subst hqq
  refine A6O.goX A6 rfl ?_
  repeat' first|refine st ?_|((with_reducible first|apply A8|apply A7);(·first|exact hP|exact hN))|(with_reducible first|apply A5|apply A4)<;>intro _
  all_goals exact⟨rfl,rfl⟩
 subst g1
 by_cases g2:k=2
 rotate_left
 ·rw[if_pos (.inr (.inl g2))] at hqq
  subst hqq
  refine A6O.goX A6 rfl ?_
  repeat' first|refine st ?_|((with_reducible first|apply A8|apply A7);(·first|exact hP|exact hN))|(with_reducible first|apply A5|apply A4)<;>intro _
  all_goals exact⟨rfl,rfl⟩
 subst g2
 by_cases g3:wk=cok
 ·rw[if_neg (by simp[g3])] at hqq
  subst hqq
  refine A6O.goX A6 rfl ?_
  repeat' first|refine st ?_|((with_reducible first|apply A8|apply A7);(·first|exact hP|exact hN))|(with_reducible first|apply A5|apply A4)<;>intro _
  all_goals exact⟨rfl,rfl⟩
 ·rw[if_pos (.inr (.inr g3))] at hqq
  subst hqq
  refine A6O.goX A6 rfl ?_
  repeat' first|refine st ?_|((with_reducible first|apply A8|apply A7);(·first|exact hP|exact hN))|(with_reducible first|apply A5|apply A4)<;>intro _
  all_goals exact⟨rfl,rfl⟩
theorem B1P(s:St)(h:s.x.ok)(hq:D2 s.x.t s.c=0)(row:List Vl)(hf:I1 row (kd (D9 s.x.t s.c).cs)=true):Pure Tryz.prog B5S [s.av,.d (.sl (B4 row))] (.d (.sl (B4 (X6 s.x.t s.c row)))):=by
 have hP:=A8z s h
 obtain⟨q1,q2,q3,q4,q5⟩:=k8 hq
 have hv:=r6.1 q1
 have hvT:=A45 hq
 obtain⟨hl,hb⟩:=l0 hf
 rw[O3] at hl
 have hl1:1<=row.length/\row.length<=12:=by have:=hvT.l1;have:=hvT.l2;omega
 have he:=S6 row
 have hm:=k7 row
 obtain⟨q,hqq⟩:∃q,q=X6 s.x.t s.c row:=⟨_,rfl⟩
 rw[<- hqq]
 unfold X6 at hqq
 unfold plI at hP
 unfold D9 at hl
 by_cases k1:s.c.k=1
 ·rw[if_pos k1] at hqq hP hl
  dsimp only at hl
  rw[K4,A2N] at hl
  obtain⟨n,hn⟩:∃n,n=s.x.t.cs.length:=⟨_,rfl⟩
  rw[<- hn] at hqq hP hl
  obtain⟨d1,hd1⟩:∃z,z=((B4 row).drop (0:Int).toNat).take (((n:Nat):Int).toNat-(0:Int).toNat):=⟨_,rfl⟩
  have e1:d1=B4 q:=by rw[hd1,hqq];simp[A42]
  have hC:=A6z d1 (by rw[e1,hqq,S6,L6];omega) (by rw[e1];exact k7 _) (.sl d1) (.inr rfl)
  rw[<- e1]
  rw[hd1] at hC ⊢
  clear hqq hf hb hq q1 q3 q4 q5 hv h e1 hd1 hvT
  obtain⟨⟨⟨nm,cs,ks,fs,xs⟩,dc,dk,df,dx⟩,y,⟨ck,cnm,to,⟨cn,cck,cl⟩,⟨vk,vn,vs⟩⟩⟩:=s
  dsimp only at k1
  subst k1
  refine A6N.go A6 rfl ?_
  repeat' first|refine st ?_|((with_reducible first|apply A8|apply A7);(·first|exact hP|exact hC))|(with_reducible first|apply A5|apply A4)<;>intro _
  all_goals rfl
 ·obtain⟨i,co,hi,hco,hcn,hus,h4,h3⟩:=x9 (q5 k1)
  have hil:=(B3.1 hco).1
  rw[if_neg k1,hi,G8] at hqq
  rw[if_neg k1,hi] at hP
  rw[if_neg k1,hi,G8] at hl
  by_cases k2:s.c.k=2
  ·rw[if_pos k2] at hqq hl
   dsimp only at hl
   rw[A0V,if_pos hil] at hl
   obtain⟨d1,hd1⟩:∃z,z=((B4 row).drop (0:Int).toNat).take (((i:Nat):Int).toNat-(0:Int).toNat):=⟨_,rfl⟩
   obtain⟨d2,hd2⟩:∃z,z=((B4 row).drop (((i:Nat):Int)).toNat).take (((B4 row).length:Int).toNat-(((i:Nat):Int)).toNat):=⟨_,rfl⟩
   have e1:d1=B4 (row.take i):=by rw[hd1];simp[A42]
   have e2:d2=B4 (row.drop i):=by
    rw[hd2,G8,G8,M7 (by rw[Y4];exact G9 _),A7t]
   have hT:=C10 (.sl d1) (.sl [F2.ds]) (.sl d2) d1 [F2.ds] d2 O6 O6 O6 (by rw[e1];exact k7 _) (λe he=>by cases A0X.1 he;rfl) (by rw[e2];exact k7 _) (by rw[e1,e2,S6,S6,L6,Y4,A2N];omega)
   have hj:jn (d1++[F2.ds]++d2)=.sl (B4 q):=by
    have e:d1++[F2.ds]++d2=B4 q:=by
     rw[e1,e2,hqq,show row.take i++F2::row.drop i=row.take i++[F2]++row.drop i by simp,<- A2n,<- A2n];rfl
    rw[e]
    unfold jn C2
    rw[decide_eq_false,if_neg (by decide)]
    rw[S6,hqq];simp
   rw[hj,hd1,hd2] at hT
   have hN:=A3v
   clear hj hqq hf hb hq q1 q3 q4 q5 hv h e1 e2 hd1 hd2 hvT
   obtain⟨⟨⟨nm,cs,ks,fs,xs⟩,dc,dk,df,dx⟩,y,⟨ck,cnm,to,⟨cn,cck,cl⟩,⟨vk,vn,vs⟩⟩⟩:=s
   dsimp only at k2 hl hil
   subst k2
   refine A6N.go A6 rfl ?_
   repeat' first|refine st ?_|((with_reducible first|apply A8|apply A7);(·first|exact hP|exact hN|exact hT))|(with_reducible first|apply A5|apply A4)<;>intro _
   all_goals rfl
  ·rw[if_neg k2] at hqq hl
   have hl:row.length=s.x.t.cs.length:=by
    rw[hl];split<;>simp
   by_cases k4:s.c.k=4
   ·rw[if_pos k4] at hqq
    obtain⟨v,hw⟩:∃v,row[i]?=some v:=⟨_,C8 (by omega)⟩
    have hgd:row.getD i F2=v:=by rw[E7,hw];rfl
    have hck:Z8 s.x.t (i:Int)=co.k:=by unfold Z8;rw[G8,hco]
    rw[hgd,hck] at hqq
    have hc1:=C0W s h q1 i co hco (B4 row) v (by have:=hb v (C4 hw);omega)
    have hX:=C1w A9n _ _ (B4 row) (by omega) hm i v (bkV co.k v) (A1O hw) hc1
    rw[A7u,<- hqq] at hX
    have hql:(B4 q).length=(B4 row).length:=by rw[hqq,S6,S6,U4]
    clear hqq hf hb hq q1 q3 q4 q5 hv h hgd hc1 hvT
    obtain⟨⟨⟨nm,cs,ks,fs,xs⟩,dc,dk,df,dx⟩,y,⟨ck,cnm,to,⟨cn,cck,cl⟩,⟨vk,vn,vs⟩⟩⟩:=s
    dsimp only at k4
    subst k4
    refine A6N.go A6 rfl ?_
    repeat' first|refine st ?_|((with_reducible first|apply A8|apply A7);(·exact hP))|((with_reducible first|apply I0|apply D7);(·exact hX);(try rintro _ _ ⟨rfl,rfl⟩))|((with_reducible apply I8);(·exact hX))|((with_reducible apply H8);refine st ?_;(with_reducible apply I5);(·exact rfl);refine st ?_;(with_reducible apply D7);(·exact hX);(try rintro _ _ ⟨rfl,rfl⟩))|(with_reducible first|apply A5|apply A4)<;>intro _
    all_goals first|rfl|exact⟨hql,rfl⟩
   ·rw[if_neg k4] at hqq
    subst hqq
    have hC:=A6z (B4 q) (by omega) hm (.sl (B4 q)) (.inr rfl)
    clear hf hb hq q1 q3 q4 q5 hv h hvT
    obtain⟨⟨⟨nm,cs,ks,fs,xs⟩,dc,dk,df,dx⟩,y,⟨ck,cnm,to,⟨cn,cck,cl⟩,⟨vk,vn,vs⟩⟩⟩:=s
    dsimp only at k1 k2 k4
    refine A6N.go A6 rfl ?_
    repeat' first|refine st ?_|((with_reducible first|apply A8|apply A7);(·first|exact hP|exact hC))|(with_reducible first|apply A5|apply A4)<;>intro _
    all_goals rfl
def fwD(t:Tb)(c:Ch)(row:List Vl):D:=if D2 t c=0/\I1 row (kd t.cs)=true then .sl (B4 (X8 t c row)) else .nil
def s7(t:Tb)(c:Ch)(row:List Vl):D:=if D2 t c=0/\I1 row (kd (D9 t c).cs)=true then .sl (B4 (X6 t c row)) else .nil
theorem A3f{dr:D}{row:List Vl}(h:B8 dr (B4 row))(h1:1<=row.length):dr=.sl (B4 row):=by
 rcases h with ⟨_,h⟩|h
 ·rw[<- S6,h] at h1;cases h1
 ·exact h
theorem B1N(x:TD)(h:x.ok)(c:Ch)(hc:G7 c)(row:List Vl)(hr:row.length<=1048576)(hrs:∀v∈row,v.s.length<=1048576)(dr:D)(hdr:B8 dr (B4 row)) :
  Pure Tryz.prog A77 [x.av,c.av,.d dr] (.d (fwD x.t c row)):=by
 have hN:=A8y x h c hc
 have hK:=A6J x.t.nm x.t.cs h.tok.hl x.dc x.dk x.df x.dx h.tok.dc
 have hF:=A8E row (kd x.t.cs) hr (by rw[O3];have:=h.tok.hl;omega) hrs dr hdr _ (A7L x.t.cs)
 obtain⟨R,hR⟩:∃R,R=fwD x.t c row:=⟨_,rfl⟩
 rw[<- hR]
 unfold fwD at hR
 by_cases hq:D2 x.t c=0
 rotate_left
 ·rw[if_neg (λe=>hq e.1)] at hR
  subst hR
  rw[decide_eq_false hq] at hN
  obtain⟨y,hy⟩:∃y,y=x.to c:=⟨_,rfl⟩
  rw[<- hy] at hN
  clear hy hq h hK hF
  obtain⟨⟨nm,cs,ks,fs,xs⟩,dc,dk,df,dx⟩:=x
  obtain⟨ck,cnm,to,⟨cn,cck,cl⟩,⟨vk,vn,vs⟩⟩:=c
  refine A8N.go A6 rfl ?_
  repeat' first|refine st ?_|((with_reducible first|apply A8|apply A7);(·exact hN))|(with_reducible first|apply A5|apply A4)<;>intro _
  all_goals rfl
 rw[decide_eq_true hq] at hN
 cases hf:I1 row (kd x.t.cs) with
 |false=>
  rw[hf] at hF hR
  rw[if_neg (λe=>by cases e.2)] at hR
  subst hR
  obtain⟨y,hy⟩:∃y,y=x.to c:=⟨_,rfl⟩
  rw[<- hy] at hN
  clear hy hq h hf
  obtain⟨⟨nm,cs,ks,fs,xs⟩,dc,dk,df,dx⟩:=x
  obtain⟨ck,cnm,to,⟨cn,cck,cl⟩,⟨vk,vn,vs⟩⟩:=c
  dsimp only at hK hF
  refine A8N.go A6 rfl ?_
  repeat' first|refine st ?_|((with_reducible first|apply A8|apply A7);(·first|exact hN|exact hK|exact hF))|(with_reducible first|apply A5|apply A4)<;>intro _
  all_goals rfl
 |true=>
  have hX:=B1Q ⟨x,x.to c,c⟩ h hq row hf
  have hl:=(l0 hf).1
  have hv:=(r6.1 (k8 hq).1).l1
  rw[O3] at hl
  have hd:=A3f hdr (by omega)
  subst hd
  rw[hf] at hF hR
  rw[if_pos ⟨hq,rfl⟩] at hR
  dsimp only at hX
  rw[<- hR] at hX
  obtain⟨y,hy⟩:∃y,y=x.to c:=⟨_,rfl⟩
  rw[<- hy] at hN hX
  clear hy hq h hf hR
  obtain⟨⟨nm,cs,ks,fs,xs⟩,dc,dk,df,dx⟩:=x
  obtain⟨ck,cnm,to,⟨cn,cck,cl⟩,⟨vk,vn,vs⟩⟩:=c
  dsimp only at hK hF
  refine A8N.go A6 rfl ?_
  repeat' first|refine st ?_|((with_reducible first|apply A8|apply A7);(·first|exact hN|exact hK|exact hF|exact hX))|(with_reducible first|apply A5|apply A4)<;>intro _
  all_goals rfl
theorem A8f{x:TD}{c:Ch}(hq:D2 x.t c=0):(x.to c).t=D9 x.t c:=by unfold TD.to;rw[if_pos hq];rfl
theorem A8x(x:TD)(h:x.ok)(c:Ch)(hc:G7 c)(row:List Vl)(hr:row.length<=1048576)(hrs:∀v∈row,v.s.length<=1048576)(dr:D)(hdr:B8 dr (B4 row)) :
  Pure Tryz.prog A58 [x.av,c.av,.d dr] (.d (s7 x.t c row)):=by
 have hN:=A8y x h c hc
 have hok:=TD.to_ok h hc
 have hK:=A6J (x.to c).t.nm (x.to c).t.cs hok.tok.hl (x.to c).dc (x.to c).dk (x.to c).df (x.to c).dx hok.tok.dc
 have hF:=A8E row (kd (x.to c).t.cs) hr (by rw[O3];have:=hok.tok.hl;omega) hrs dr hdr _ (A7L _)
 obtain⟨R,hR⟩:∃R,R=s7 x.t c row:=⟨_,rfl⟩
 rw[<- hR]
 unfold s7 at hR
 by_cases hq:D2 x.t c=0
 rotate_left
 ·rw[if_neg (λe=>hq e.1)] at hR
  subst hR
  rw[decide_eq_false hq] at hN
  clear hK hF hok
  obtain⟨y,hy⟩:∃y,y=x.to c:=⟨_,rfl⟩
  rw[<- hy] at hN
  clear hy hq h
  obtain⟨⟨nm,cs,ks,fs,xs⟩,dc,dk,df,dx⟩:=x
  obtain⟨ck,cnm,to,⟨cn,cck,cl⟩,⟨vk,vn,vs⟩⟩:=c
  refine A8M.go A6 rfl ?_
  repeat' first|refine st ?_|((with_reducible first|apply A8|apply A7);(·exact hN))|(with_reducible first|apply A5|apply A4)<;>intro _
  all_goals rfl
 rw[decide_eq_true hq] at hN
 rw[<- A8f hq] at hR
 cases hf:I1 row (kd (x.to c).t.cs) with
 |false=>
  rw[hf] at hF hR
  rw[if_neg (λe=>by cases e.2)] at hR
  subst hR
  clear hf hok
  obtain⟨y,hy⟩:∃y,y=x.to c:=⟨_,rfl⟩
  rw[<- hy] at hN hK hF
  clear hy hq h
  obtain⟨⟨nm,cs,ks,fs,xs⟩,dc,dk,df,dx⟩:=x
  obtain⟨ck,cnm,to,⟨cn,cck,cl⟩,⟨vk,vn,vs⟩⟩:=c
  refine A8M.go A6 rfl ?_
  repeat' first|refine st ?_|((with_reducible first|apply A8|apply A7);(·first|exact hN|exact hK|exact hF))|(with_reducible first|apply A5|apply A4)<;>intro _
  all_goals rfl
 |true=>
  have hX:=B1P ⟨x,x.to c,c⟩ h hq row (by show I1 row (kd (D9 x.t c).cs)=true;rw[<- A8f hq];exact hf)
  have hl:=(l0 hf).1
  have hv:=(A45 hq).l1
  rw[<- A8f hq] at hv
  rw[O3] at hl
  have hd:=A3f hdr (by omega)
  subst hd
  rw[hf] at hF hR
  rw[if_pos ⟨hq,rfl⟩] at hR
  dsimp only at hX
  rw[<- hR] at hX
  clear hf hok hl hv hR
  obtain⟨y,hy⟩:∃y,y=x.to c:=⟨_,rfl⟩
  rw[<- hy] at hN hX hK hF
  clear hy hq h
  obtain⟨⟨nm,cs,ks,fs,xs⟩,dc,dk,df,dx⟩:=x
  obtain⟨ck,cnm,to,⟨cn,cck,cl⟩,⟨vk,vn,vs⟩⟩:=c
  refine A8M.go A6 rfl ?_
  repeat' first|refine st ?_|((with_reducible first|apply A8|apply A7);(·first|exact hN|exact hK|exact hF|exact hX))|(with_reducible first|apply A5|apply A4)<;>intro _
  all_goals rfl
theorem C1W(x:TD)(h:x.ok)(c:Ch)(hc:G7 c)(row:List Vl)(hr:row.length<=1048576)(hrs:∀v∈row,v.s.length<=1048576)(dr:D)(hdr:B8 dr (B4 row)) :
  Pure Tryz.prog B5w [x.av,c.av,.d dr] (.d (fwD x.t c row)):=by
 have hN:=A6C x.t x.dc x.dk x.df x.dx h.tok c hc
 have hK:=A4I x.t.nm x.t.cs h.tok.hl x.dc x.dk x.df x.dx h.tok.dc
 have hF:=A6I row (kd x.t.cs) hr (by rw[O3];exact h.tok.hl) hrs dr hdr _ (.inr rfl)
 have hI:=A1v x.t.nm x.t.cs h.tok.hl x.dc x.dk x.df x.dx h.tok.dc c.nm
 obtain⟨R,hR⟩:∃R,R=fwD x.t c row:=⟨_,rfl⟩
 rw[<- hR]
 unfold fwD at hR
 by_cases hq:D2 x.t c=0
 rotate_left
 ·rw[if_neg (λe=>hq e.1)] at hR
  subst hR
  obtain⟨e,he⟩:∃e,e=D2 x.t c:=⟨_,rfl⟩
  rw[<- he] at hN hq
  clear he h hK hF
  obtain⟨⟨nm,cs,ks,fs,xs⟩,dc,dk,df,dx⟩:=x
  obtain⟨ck,cnm,to,⟨cn,cck,cl⟩,⟨vk,vn,vs⟩⟩:=c
  refine A2F.go A6 rfl ?_
  repeat' first|refine st ?_|((with_reducible first|apply A8|apply A7);(·exact hN))|(with_reducible first|apply A5|apply A4)<;>intro _
  all_goals rfl
 rw[hq] at hN
 cases hf:I1 row (kd x.t.cs) with
 |false=>
  rw[hf] at hF hR
  rw[if_neg (λe=>by cases e.2)] at hR
  subst hR
  clear hq h hf
  obtain⟨⟨nm,cs,ks,fs,xs⟩,dc,dk,df,dx⟩:=x
  obtain⟨ck,cnm,to,⟨cn,cck,cl⟩,⟨vk,vn,vs⟩⟩:=c
  dsimp only at hK hF hN
  refine A2F.go A6 rfl ?_
  repeat' first|refine st ?_|((with_reducible first|apply A8|apply A7);(·first|exact hN|exact hK|exact hF))|(with_reducible first|apply A5|apply A4)<;>intro _
  all_goals rfl
 |true=>
  obtain⟨hl,hb⟩:=l0 hf
  obtain⟨q1,q2,q3,q4,q5⟩:=k8 hq
  have hv:=(r6.1 q1).l1
  have hv2:=(r6.1 q1).l2
  rw[O3] at hl
  have hd:=A3f hdr (by omega)
  subst hd
  have he:=S6 row
  have hm:=k7 row
  rw[hf] at hF hR
  rw[if_pos ⟨hq,rfl⟩] at hR
  unfold X8 at hR
  have hl1:row.length<=12:=by omega
  have hn0:(([]:List (List D))++B4 row).length=(B4 row).length:=rfl
  have hbb:∀b:Bool,(bif b then false else false)=false:=λb=>by cases b<;>rfl
  by_cases k1:c.k=1
  ·rw[if_pos k1,<- A2n] at hR
   clear hq h hf q4 q5 hb
   obtain⟨⟨nm,cs,ks,fs,xs⟩,dc,dk,df,dx⟩:=x
   obtain⟨ck,cnm,to,⟨cn,cck,cl⟩,⟨vk,vn,vs⟩⟩:=c
   dsimp only at hK hF hN k1
   subst k1
   subst hR
   refine A2F.go A6 rfl ?_
   repeat' first|refine st ?_|((with_reducible first|apply A8|apply A7);(·first|exact hN|exact hK|exact hF|exact hI))|(with_reducible first|apply A5|apply A4)<;>intro _
   all_goals first|rfl|(simp only[hbb];rfl)
  obtain⟨i,co,hi,hco,hcn,hus,h4,h3⟩:=x9 (q5 k1)
  have hil:=(B3.1 hco).1
  rw[if_neg k1,hi,G8] at hR
  rw[hi] at hI
  by_cases k2:c.k=2
  ·rw[if_pos k2] at hR
   have ee:(List.take (((i:Nat):Int).toNat-(0:Int).toNat) (List.drop (0:Int).toNat (B4 row)))++List.take (((B4 row).length:Int).toNat-(((i:Nat):Int)+1).toNat) (List.drop (((i:Nat):Int)+1).toNat (B4 row))=B4 (row.eraseIdx i):=by
    rw[show(((i:Nat):Int)+1).toNat=i+1 by omega,G8,G8,M7 (l:=List.drop (i+1) (B4 row)) (by rw[Y4];exact G9 _)]
    show List.take i (B4 row)++_=_
    rw[A42,A7t,A2n,<- List.eraseIdx_eq_take_drop_succ]
   rw[<- ee] at hR
   have hls:(List.take (((i:Nat):Int).toNat-(0:Int).toNat) (List.drop (0:Int).toNat (B4 row))).length=i:=by
    show(List.take i (B4 row)).length=i
    rw[L6];omega
   have hls2:(List.take (((B4 row).length:Int).toNat-(((i:Nat):Int)+1).toNat) (List.drop (((i:Nat):Int)+1).toNat (B4 row))).length<=12:=by
    have:=A6V (((B4 row).length:Int).toNat-(((i:Nat):Int)+1).toNat) (List.drop (((i:Nat):Int)+1).toNat (B4 row))
    omega
   have hmA:∀e∈(List.take (((i:Nat):Int).toNat-(0:Int).toNat) (List.drop (0:Int).toNat (B4 row))),e.length=3:=λe h=>hm e (A2O (W3 h))
   have hmB:∀e∈(List.take (((B4 row).length:Int).toNat-(((i:Nat):Int)+1).toNat) (List.drop (((i:Nat):Int)+1).toNat (B4 row))),e.length=3:=λe h=>hm e (A2O (W3 h))
   have hb1:(([]:List (List D)).length+(List.take (((i:Nat):Int).toNat-(0:Int).toNat) (List.drop (0:Int).toNat (B4 row))).length)*32<=140737488355328/\([]:List (List D)).length+(List.take (((i:Nat):Int).toNat-(0:Int).toNat) (List.drop (0:Int).toNat (B4 row))).length<=9223372036854775807:=by rw[hls];simp only[P9];omega
   have hb2:(([]:List (List D))++(List.take (((i:Nat):Int).toNat-(0:Int).toNat) (List.drop (0:Int).toNat (B4 row)))).length=i:=hls
   have hb3:((([]:List (List D))++(List.take (((i:Nat):Int).toNat-(0:Int).toNat) (List.drop (0:Int).toNat (B4 row)))).length+(List.take (((B4 row).length:Int).toNat-(((i:Nat):Int)+1).toNat) (List.drop (((i:Nat):Int)+1).toNat (B4 row))).length)*32<=140737488355328/\(([]:List (List D))++(List.take (((i:Nat):Int).toNat-(0:Int).toNat) (List.drop (0:Int).toNat (B4 row)))).length+(List.take (((B4 row).length:Int).toNat-(((i:Nat):Int)+1).toNat) (List.drop (((i:Nat):Int)+1).toNat (B4 row))).length<=9223372036854775807:=by rw[hb2];omega
   clear hq h hf q4 q5 hb ee hco h4 h3 hus
   obtain⟨⟨nm,cs,ks,fs,xs⟩,dc,dk,df,dx⟩:=x
   obtain⟨ck,cnm,to,⟨cn,cck,cl⟩,⟨vk,vn,vs⟩⟩:=c
   dsimp only at hK hF hN k2 hil hl
   subst k2
   subst hR
   refine A2F.go A6 rfl ?_
   repeat' first|refine st ?_|((with_reducible first|apply A8|apply A7);(·first|exact hN|exact hK|exact hF|exact hI))|(with_reducible first|apply A5|apply A4)<;>intro _
   all_goals first|rfl|(simp only[hbb];rfl)
  rw[if_neg k2] at hR
  by_cases k4:c.k=4
  ·rw[if_pos k4] at hR
   obtain⟨v,hw⟩:∃v,row[i]?=some v:=⟨_,C8 (by omega)⟩
   have hgd:row.getD i F2=v:=by rw[E7,hw];rfl
   have hvs:=hb v (C4 hw)
   rw[hgd] at hR
   have hg:(B4 row)[((i:Nat):Int).toNat]?=some v.ds:=A1O hw
   have hLi:=C20 v (by omega)
   have hTe:=A6G (r7 v) (O9 (C01 v (by omega)) (by omega))
   have hset:v.k=0->row.set i v=row:=λ_=>by
    refine A2H λj=>?_
    by_cases hj:i=j
    ·subst hj;rw[A05 (by omega),hw]
    ·rw[P2 hj]
   unfold z7 at hR
   obtain⟨l,hll⟩:∃l,l=r7 v:=⟨_,rfl⟩
   rw[<- hll] at hLi hTe hR
   clear hll
   by_cases hk0:v.k=0
   ·rw[if_pos hk0,hset hk0] at hR
    clear hset hq h hf q4 q5 hb hco h4 h3 hus hgd hw
    obtain⟨⟨nm,cs,ks,fs,xs⟩,dc,dk,df,dx⟩:=x
    obtain⟨ck,cnm,to,⟨cn,cck,cl⟩,⟨vk,vn,vs⟩⟩:=c
    obtain⟨wk,wn,ws⟩:=v
    dsimp only at hK hF hN k4 hil hl hk0
    subst k4
    subst hR
    subst hk0
    refine A2F.go A6 rfl ?_
    repeat' first|refine st ?_|((with_reducible first|apply A8|apply A7);(·first|exact hN|exact hK|exact hF|exact hI))|(with_reducible first|apply A5|apply A4)<;>intro _
    all_goals first|rfl|(simp only[hbb];rfl)
   ·rw[if_neg hk0] at hR
    obtain⟨w,hww⟩:∃w,w=A4v l:=⟨_,rfl⟩
    rw[<- hww] at hTe hR
    rw[<- A7u] at hR
    clear hset hq h hf q4 q5 hb hco h4 h3 hus hgd hw hww
    obtain⟨⟨nm,cs,ks,fs,xs⟩,dc,dk,df,dx⟩:=x
    obtain⟨ck,cnm,to,⟨cn,cck,cl⟩,⟨vk,vn,vs⟩⟩:=c
    obtain⟨wk,wn,ws⟩:=v
    dsimp only at hK hF hN k4 hil hl hk0
    subst k4
    subst hR
    refine A2F.go A6 rfl ?_
    repeat' first|refine st ?_|((with_reducible first|apply A8|apply A7);(·first|exact hN|exact hK|exact hF|exact hI|exact hLi|exact hTe))|(with_reducible first|apply A5|apply A4)<;>intro _
    all_goals first|rfl|(simp only[hbb];rfl)
  ·rw[if_neg k4] at hR
   clear hq h hf q4 q5 hb hco h4 h3 hus
   obtain⟨⟨nm,cs,ks,fs,xs⟩,dc,dk,df,dx⟩:=x
   obtain⟨ck,cnm,to,⟨cn,cck,cl⟩,⟨vk,vn,vs⟩⟩:=c
   dsimp only at hK hF hN k1 k2 k4 hil hl
   subst hR
   refine A2F.go A6 rfl ?_
   repeat' first|refine st ?_|((with_reducible first|apply A8|apply A7);(·first|exact hN|exact hK|exact hF|exact hI))|(with_reducible first|apply A5|apply A4)<;>intro _
   all_goals first|rfl|(simp only[hbb];rfl)
end Go.Proofs
end
