/- Texts of this claim, joined. No condition. -/
import Derived.Test.YtfnaleemmeejcaaGreatQ9
set_option linter.unusedSimpArgs false
set_option linter.unusedVariables false
set_option maxRecDepth 10000
set_option maxHeartbeats 4000000
section
namespace Go.Proofs
open Go.Bi
theorem C1y(nl:Bool)(l:List (List D)):T6 (ng nl l)=D5 l+1:=by
 unfold ng
 split
 ·rename_i h
  simp only[J9,A0G] at h
  rw[h.2];rfl
 ·simp only[T6]
theorem Ex.bk_eq(op n:Int)(v:Vl)(nm:List UInt8)(nl:Bool)(args:List Ex):(Ex.mk op n v nm nl args).bk=D5 (xL args)+v.s.length+nm.length+7:=by
 rw[Ex.bk,Ex.ds_mk]
 simp only[J6,T6,C1y]
 omega
theorem A8Z{l:List Ex}{f:Ex->Ex}(h:∀x∈l,(f x).bk<=x.bk):D5 (xL (l.map f))<=D5 (xL l):=by
 induction l with
 |nil=>exact D4 _
 |cons a l ih=>
  have h1:=h a (by simp)
  have h2:=ih λx hx=>h x (by simp[hx])
  unfold Ex.bk at h1
  simp only[G5,xL,D5] at h2 ⊢
  omega
theorem C5e{l:List Vl}{v:Vl}(h:v∈l):v.s.length<=(V3 l).length:=by
 induction l with
 |nil=>cases h
 |cons a l ih=>
  unfold V3 at ih ⊢
  rw[G5,List.flatten_cons,H3]
  rcases I2.1 h with rfl|h
  ·omega
  ·have:=ih h;omega
theorem C5c(l:List Vl)(i:Nat):(l.getD i C5).s.length<=(V3 l).length:=by
 rw[H6]
 cases h:l[i]? with
 |none=>exact K1 _
 |some v=>exact C5e (C3 h)
theorem E2o(b:Bool):(T4 b).s=[]:=rfl
theorem B3P(t:Int):(O9 t).s=[]:=by
 unfold O9
 repeat' split
 all_goals rfl
theorem B3O(n:Int):(Y4 n).s=[]:=by
 unfold Y4 Y5
 split<;>rfl
theorem E2t(s:List UInt8):(A67 s).s.length<=s.length:=by
 unfold A67 Y5
 split
 ·exact D4 _
 ·exact K1 _
theorem E2s(a b:Int):(vPr a b).s=[]:=by
 unfold vPr
 repeat' split
 all_goals first|rfl|exact B3O _
theorem E2m(op:Int)(l:List Vl):(s6 op l).s=[]:=by
 unfold s6 vAr A83 A3p
 repeat' split
 all_goals first|rfl|exact B3O _|exact E2s _ _
theorem D7U(l:List Vl):(V8 l).s.length<=(V3 l).length:=by
 induction l with
 |nil=>exact K1 _
 |cons a l ih=>
  rw[V8]
  split
  ·have:(V3 (a::l)).length=a.s.length+(V3 l).length:=by simp[V3]
   omega
  ·exact C5e (by simp)
theorem D8I(op n:Int)(v:Vl)(l:List Vl):(T8 op n v l []).s.length<=v.s.length+(V3 l).length:=by
 unfold T8
 by_cases c1:op=1
 ·rw[if_pos c1];omega
 rw[if_neg c1]
 by_cases c2:op=2
 ·rw[if_pos c2]
  have:(b7 [] n).s=[]:=by
   unfold b7 Y5
   split
   ·have:O3 [] n=C5:=by
     unfold O3
     repeat' split
     all_goals first|rfl|simp
    rw[this];rfl
   ·rfl
  rw[this];exact K1 _
 rw[if_neg c2]
 by_cases c3:op=22
 ·rw[if_pos c3]
  have h1:=C5c l 1
  have h2:=C5c l 2
  split<;>omega
 rw[if_neg c3]
 by_cases c4:op=4
 ·rw[if_pos c4,B3P];exact K1 _
 rw[if_neg c4]
 by_cases c5:op=5\/op=6
 ·rw[if_pos c5,B3P];exact K1 _
 rw[if_neg c5]
 by_cases c6:op=21
 ·rw[if_pos c6,E2o];exact K1 _
 rw[if_neg c6]
 by_cases c7:op=23
 ·rw[if_pos c7];have:=D7U l;omega
 rw[if_neg c7]
 by_cases c8:op=24
 ·rw[if_pos c8]
  have:(A0f n (l.getD 0 C5) (l.getD 1 C5) (l.getD 2 C5) (l.getD 3 C5)).s=[]:=by
   unfold A0f
   split<;>rfl
  rw[this];exact K1 _
 rw[if_neg c8]
 by_cases c9:op=19\/op=20
 ·rw[if_pos c9]
  unfold Z4
  split
  ·split
   ·rw[B3O];exact K1 _
   ·have:=E2t (V3 l);omega
  ·exact K1 _
 rw[if_neg c9]
 by_cases c10:13<=op/\op<=18
 ·rw[if_pos c10,E2m];exact K1 _
 rw[if_neg c10,B3P];exact K1 _
theorem C5b:∀(l:List Ex),(∀a∈l,(ev [] a).s.length+7<=a.bk)->(V3 (l.map (ev []))).length<=D5 (xL l)
 |[],_=>K1 _
 |a::l,ih=>by
  have h3:=ih a (by simp)
  have h4:=C5b l λx hx=>ih x (by simp[hx])
  unfold Ex.bk at h3
  have:(V3 ((a::l).map (ev []))).length=(ev [] a).s.length+(V3 (l.map (ev []))).length:=by simp[V3]
  rw[this]
  simp only[xL,G5,D5] at h4 ⊢
  omega
theorem D8K:∀e:Ex,(ev [] e).s.length+7<=e.bk:=by
 refine Ex.ind λop n v nm nl args ih=>?_
 rw[m7,Ex.bk_eq]
 split
 ·have h1:=D8I op n v (args.map (ev []))
  have h2:=C5b args ih
  omega
 ·show 0+7<=_
  omega
theorem C23(op:Int):∀l:List Ex,D5 (xL (N7 op l))<=D5 (xL l)
 |[]=>D4 _
 |x::r=>by
  have h:=C23 op r
  rw[N7]
  split
  ·simp only[xL,G5,D5] at h ⊢;omega
  ·simp only[xL,G5,D5] at h ⊢;omega
theorem D7K(op n:Int)(v:Vl)(nm:List UInt8)(l:List Ex):(cnX op n v nm l).bk<=D5 (xL l)+v.s.length+nm.length+7:=by
 unfold cnX
 split
 ·rw[Ex.bk_eq];simp[xL,D5,T4]<;>omega
 ·split
  ·rw[Ex.bk_eq];have:=C23 op l;omega
  ·rw[Ex.bk_eq];exact D4 _
theorem C4Y:∀e:Ex,(J1 e).bk<=e.bk:=by
 refine Ex.ind λop n v nm nl args ih=>?_
 rw[A5U]
 have h1:=A8Z ih
 split
 ·have h2:=D8K (.mk op n v nm nl args)
  rw[Ex.bk_eq 1]
  simp only[xL,V5,D5,k9]
  omega
 ·rw[Ex.bk_eq op n v nm nl]
  unfold smF
  split
  ·have:=D7K op n v nm (args.map J1)
   omega
  ·rw[Ex.bk_eq];omega
theorem B0b(ks:List Int)(hks:ks.length<=1073741824):∀e:Ex,(F5 ks e).2=0->F5 ks (A9 0 e)=F5 ks e/\(∀r,ev r (A9 0 e)=ev r e)/\I6 (A9 0 e)=I6 e:=by
 refine Ex.ind λop n v nm nl args ih h=>?_
 obtain⟨hf,h1,h2⟩:=A4B h
 have e1:A9 0 (.mk op n v nm nl args)=.mk op n v nm true (args.map (A9 0)):=by
  rw[A25]
  by_cases h3:op=2
  ·obtain⟨h4,h5,h6⟩:=h2 h3
   rw[if_pos h3,Int.add_zero]
   have:M3 n=n:=by
    show IntKind.i64.wrap n=n
    rw[IntKind.wrap_i64]
    omega
   rw[this]
  ·rw[if_neg h3]
 have ha:∀a∈args,(F5 ks a).2=0:=by
  by_cases h3:op=2
  ·rw[(h2 h3).2.2];intro a h;cases h
  ·exact(h1 h3).1
 have ih':=λa hm=>ih a hm (ha a hm)
 have m1:(args.map (A9 0)).map (F5 ks)=args.map (F5 ks):=by
  rw[W3];exact P3 λa hm=>(ih' a hm).1
 have m2:∀r,(args.map (A9 0)).map (ev r)=args.map (ev r):=λr=>by
  rw[W3];exact P3 λa hm=>(ih' a hm).2.1 r
 have m3:(args.map (A9 0)).map I6=args.map I6:=by
  rw[W3];exact P3 λa hm=>(ih' a hm).2.2
 rw[e1]
 refine⟨?_,λr=>?_,?_⟩
 ·rw[A0a,A0a,D3,m1]
 ·rw[m7,m7,D3,m2]
 ·rw[X6,X6,m3]
end Go.Proofs
end
section
namespace Go.Proofs
open Go.Bi
abbrev A2O:Ex:=A2q ⟨3,1,[]⟩
abbrev Pl.op:Pl->Int
 |.mk o _ _=>o.op
def fdX(o:Po):Ex:=if o.op=3\/o.op=5\/o.op=6 then J1 (A9 0 o.pred) else A9 0 o.pred
abbrev fdO(o:Po):Po:=⟨o.op,o.n,o.nk,o.ki,true,o.rows,fdX o,true,o.xs.map (A9 0),o.ny,o.keys,o.na,o.aggs⟩
def fdN(o:Po)(l:List Pl):Pl:=
 match l with
 |[x]=>if (o.op=3/\T3 (fdX o) A2O=true)\/(o.op=10/\x.op=10) then x else .mk (fdO o) true [x]
 |l=>.mk (fdO o) true l
mutual
/-- A plan, folded. -/
def M7:Pl->Pl
 |.mk o _ ins=>fdN o (A78 ins)
def A78:List Pl->List Pl
 |[]=>[]
 |p::r=>M7 p::A78 r
end
theorem C2P:∀l,A78 l=l.map M7
 |[]=>by simp[A78]
 |e::r=>by simp[A78,C2P r]
theorem B2q(o:Po)(ni:Bool)(ins:List Pl):M7 (.mk o ni ins)=fdN o (ins.map M7):=by rw[M7,C2P]
theorem B2p(o:Po)(x:Pl):fdN o [x]=if (o.op=3/\T3 (fdX o) A2O=true)\/(o.op=10/\x.op=10) then x else .mk (fdO o) true [x]:=rfl
theorem B2o(o:Po)(l:List Pl)(h:l.length≠1):fdN o l=.mk (fdO o) true l:=by
 match l,h with
 |[],_=>rfl
 |_::_::_,_=>rfl
theorem B4l:∀p:Pl,p.bk<=1073741824->Pure Tryz.prog A2h [p.av] (M7 p).av:=by
 refine Pl.ind λo ni ins ih hb=>?_
 have hB:=Pl.bd hb
 have hM:=B4k A2h M7 o ni ins hb (λx hx=>ih x hx (hB.sub x hx))
 have hsb:(A9 0 o.pred).bk<=1073741824:=J2 (j6 0 _) hB.pred
 have hS:=C6I (A9 0 o.pred) hsb
 have hmb:=C4Y (A9 0 o.pred)
 have hSm:=C6m (J1 (A9 0 o.pred)) (by omega) A2O (by decide)
 have hV:=A3z true
 obtain⟨q,hq⟩:∃q,q=M7 (.mk o ni ins):=⟨_,rfl⟩
 rw[<- hq]
 rw[B2q] at hq
 have hil:=hB.il
 obtain⟨l,hl⟩:∃l,l=ins.map M7:=⟨_,rfl⟩
 have hll:l.length<=1073741824:=by rw[hl,D3];omega
 rw[<- hl] at hM hq
 clear hl ih hB hb hsb hmb hil
 obtain⟨op,n,nk,ki,nr,rows,pred,nx,xs,ny,keys,na,aggs⟩:=o
 have hX:fdX ⟨op,n,nk,ki,nr,rows,pred,nx,xs,ny,keys,na,aggs⟩=if op=3\/op=5\/op=6 then J1 (A9 0 pred) else A9 0 pred:=rfl
 obtain⟨e3,he3⟩:∃e,e=fdX ⟨op,n,nk,ki,nr,rows,pred,nx,xs,ny,keys,na,aggs⟩:=⟨_,rfl⟩
 have hq1:l.length≠1->q=.mk ⟨op,n,nk,ki,true,rows,e3,true,xs.map (A9 0),ny,keys,na,aggs⟩ true l:=λh=>by rw[hq,B2o _ _ h,he3]
 have hq2:∀x,l=[x]->q=if (op=3/\T3 e3 A2O=true)\/(op=10/\x.op=10) then x else .mk ⟨op,n,nk,ki,true,rows,e3,true,xs.map (A9 0),ny,keys,na,aggs⟩ true l:=λx h=>by rw[hq,h,B2p,he3]
 rw[<- he3] at hX
 clear hq he3
 dsimp only[l9] at hM hS hSm
 obtain⟨e1,he1⟩:∃e,e=A9 0 pred:=⟨_,rfl⟩
 rw[<- he1] at hM hS hSm hX
 obtain⟨e2,he2⟩:∃e,e=J1 e1:=⟨_,rfl⟩
 rw[<- he2] at hS hSm hX
 clear he1 he2
 obtain⟨sb,hsb⟩:∃b,b=T3 e2 A2O:=⟨_,rfl⟩
 rw[<- hsb] at hSm
 have hX1:op=3\/op=5\/op=6->e3=e2:=λh=>by rw[hX,if_pos h]
 have hX2:¬(op=3\/op=5\/op=6)->e3=e1:=λh=>by rw[hX,if_neg h]
 clear hX
 obtain⟨xo,xn,xv,xm,xl,xa⟩:=pred
 obtain⟨yo,yn,yv,ym,yl,ya⟩:=e1
 obtain⟨zo,zn,zv,zm,zl,za⟩:=e2
 rw[Pl.av_eq _ _ _ _ _ _ _ _ _ rfl,Pl.av_eq _ _ _ _ _ _ _ _ _ rfl] at hM
 rw[Pl.av_eq _ _ _ _ _ _ _ _ _ rfl]
 rw[Ex.av_mk,Ex.av_mk] at hS hSm
 have hqa1:(Pl.mk ⟨op,n,nk,ki,true,rows,.mk zo zn zv zm zl za,true,xs.map (A9 0),ny,keys,na,aggs⟩ true l).av=F3 op n (ng nk (A5 ki)) (ng true (B6 rows)) zo zn zv zm (ng zl (xL za)) (ng true (xL (xs.map (A9 0)))) (ng ny (A5 keys)) (ng na (H4 aggs)) (ng true (pL l)):=Pl.av_eq _ _ _ _ _ _ _ _ _ rfl
 have hqa2:(Pl.mk ⟨op,n,nk,ki,true,rows,.mk yo yn yv ym yl ya,true,xs.map (A9 0),ny,keys,na,aggs⟩ true l).av=F3 op n (ng nk (A5 ki)) (ng true (B6 rows)) yo yn yv ym (ng yl (xL ya)) (ng true (xL (xs.map (A9 0)))) (ng ny (A5 keys)) (ng na (H4 aggs)) (ng true (pL l)):=Pl.av_eq _ _ _ _ _ _ _ _ _ rfl
 have hM:Bi.Pure Tryz.prog A2i [F3 op n (ng nk (A5 ki)) (ng nr (B6 rows)) xo xn xv xm (ng xl (xL xa)) (ng nx (xL xs)) (ng ny (A5 keys)) (ng na (H4 aggs)) (ng ni (pL ins)),.d (.fn A2h)] (F3 op n (ng nk (A5 ki)) (ng true (B6 rows)) yo yn yv ym (ng yl (xL ya)) (ng true (xL (xs.map (A9 0)))) (ng ny (A5 keys)) (ng na (H4 aggs)) (ng true (pL l))):=hM
 show Bi.Pure Tryz.prog A2h [F3 op n (ng nk (A5 ki)) (ng nr (B6 rows)) xo xn xv xm (ng xl (xL xa)) (ng nx (xL xs)) (ng ny (A5 keys)) (ng na (H4 aggs)) (ng ni (pL ins))] q.av
 have hdi:B0 (ng true (pL l)) (pL l):=C7
 have l1:=n7 l
 have m1:=u7 l
 have g1:∀x,l=[x]->(pL l)[(0:Nat)]?=some x.ds:=λx h=>by rw[h];rfl
 obtain⟨d1,h⟩:∃d,d=ng nk (A5 ki):=⟨_,rfl⟩
 rw[<- h] at hM hqa1 hqa2 ⊢;clear h
 obtain⟨d2,h⟩:∃d,d=ng nr (B6 rows):=⟨_,rfl⟩
 rw[<- h] at hM ⊢;clear h
 obtain⟨d3,h⟩:∃d,d=ng true (B6 rows):=⟨_,rfl⟩
 rw[<- h] at hM hqa1 hqa2;clear h
 obtain⟨d4,h⟩:∃d,d=ng xl (xL xa):=⟨_,rfl⟩
 rw[<- h] at hM ⊢;clear h
 obtain⟨d5,h⟩:∃d,d=ng nx (xL xs):=⟨_,rfl⟩
 rw[<- h] at hM ⊢;clear h
 obtain⟨d6,h⟩:∃d,d=ng ny (A5 keys):=⟨_,rfl⟩
 rw[<- h] at hM hqa1 hqa2 ⊢;clear h
 obtain⟨d7,h⟩:∃d,d=ng na (H4 aggs):=⟨_,rfl⟩
 rw[<- h] at hM hqa1 hqa2 ⊢;clear h
 obtain⟨d8,h⟩:∃d,d=ng ni (pL ins):=⟨_,rfl⟩
 rw[<- h] at hM ⊢;clear h
 obtain⟨d9,h⟩:∃d,d=ng yl (xL ya):=⟨_,rfl⟩
 rw[<- h] at hM hS hqa2;clear h
 obtain⟨d10,h⟩:∃d,d=ng zl (xL za):=⟨_,rfl⟩
 rw[<- h] at hS hSm hqa1;clear h
 obtain⟨d11,h⟩:∃d,d=ng true (xL (xs.map (A9 0))):=⟨_,rfl⟩
 rw[<- h] at hM hqa1 hqa2;clear h
 obtain⟨d12,h⟩:∃d,d=ng true (pL l):=⟨_,rfl⟩
 rw[<- h] at hM hqa1 hqa2 hdi;clear h
 obtain⟨es,h⟩:∃z,z=pL l:=⟨_,rfl⟩
 rw[<- h] at hdi l1 m1 g1;clear h
 have hSm:Bi.Pure Tryz.prog A5b [eX zo zn zv zm d10,eX 1 0 ⟨3,1,[]⟩ [] .nil] (.d (.bool sb)):=hSm
 have hV:Bi.Pure Tryz.prog A2Z [.d (.bool true)] (eV ⟨3,1,[]⟩):=hV
 have r1:xv.s=xv.s:=rfl
 have r2:xm=xm:=rfl
 have r3:yv.s=yv.s:=rfl
 have r4:ym=ym:=rfl
 have r5:zv.s=zv.s:=rfl
 have r6:zm=zm:=rfl
 by_cases hlen:l.length=1
 rotate_left
 ·have hq1:=hq1 hlen
  have hne:¬(es.length:Int)=1:=by omega
  clear hq2 g1 hlen hSm hV hsb
  by_cases c:op=3\/op=5\/op=6
  ·rw[hX1 c] at hq1
   rw[<- hq1] at hqa1
   rw[hqa1]
   clear hX1 hX2 hq1 hqa1 hqa2
   refine A3B.go A6 rfl ?_
   rcases c with rfl|rfl|rfl
   all_goals skip
   all_goals repeat' first|refine st ?_|((with_reducible apply A4);conv=>whnf)|refine⟨λ_=>?_,λ_=>?_⟩|fail
   all_goals first|rfl|(exfalso;omega)
  ·rw[hX2 c] at hq1
   rw[<- hq1] at hqa2
   rw[hqa2]
   have c3:¬op=3:=λh=>c (.inl h)
   have c5:¬op=5:=λh=>c (.inr (.inl h))
   have c6:¬op=6:=λh=>c (.inr (.inr h))
   clear hX1 hX2 hq1 hqa1 hqa2 hS c
   refine A3B.go A6 rfl ?_
   repeat' first|refine st ?_|((with_reducible apply A4);conv=>whnf)|refine⟨λ_=>?_,λ_=>?_⟩|fail
   all_goals first|rfl|(exfalso;omega)
 ·obtain⟨x,hx⟩:∃x,l=[x]:=by
   match l,hlen with
   |[x],_=>exact⟨x,rfl⟩
  have hq2:=hq2 x hx
  have hg:=g1 x hx
  have hne:(es.length:Int)=1:=by omega
  clear hq1 g1 hlen hx
  obtain⟨op',n',dk',dr',xo',xn',xv',xm',xd',dx',dy',da',di',c1,c2⟩:=Pl.cut x
  have hxo:x.op=op':=by
   obtain⟨o,b,m⟩:=x
   rw[Pl.ds_mk] at c1
   have:=congrArg (λl=>l.getD 0 (eI 0)) c1
   exact D.int.inj this|>.2
  rw[c1] at hg
  rw[hxo] at hq2
  have r7:xv'.s=xv'.s:=rfl
  have r8:xm'=xm':=rfl
  by_cases c:op=3\/op=5\/op=6
  ·rw[hX1 c,<- hsb] at hq2
   by_cases c3:op=3
   ·subst c3
    cases sb with
    |true=>
     rw[if_pos (.inl ⟨rfl,rfl⟩)] at hq2
     rw[hq2,c2]
     clear hX1 hX2 hq2 hqa1 hqa2 hsb c c1 c2 hxo
     refine A3B.go A6 rfl ?_
     repeat' first|refine st ?_|((with_reducible apply A4);conv=>whnf)|refine⟨λ_=>?_,λ_=>?_⟩|fail
     all_goals first|rfl|(exfalso;omega)
    |false=>
     rw[if_neg (by rintro(⟨_,h⟩|⟨h,_⟩)<;>cases h)] at hq2
     rw[<- hq2] at hqa1
     rw[hqa1]
     clear hX1 hX2 hq2 hqa1 hqa2 hsb c c1 c2 hxo
     refine A3B.go A6 rfl ?_
     repeat' first|refine st ?_|((with_reducible apply A4);conv=>whnf)|refine⟨λ_=>?_,λ_=>?_⟩|fail
     all_goals first|rfl|(exfalso;omega)
   ·have c56:op=5\/op=6:=by omega
    rw[if_neg (by rintro(⟨h,_⟩|⟨h,_⟩)<;>omega)] at hq2
    rw[<- hq2] at hqa1
    rw[hqa1]
    clear hX1 hX2 hq2 hqa1 hqa2 hsb c c1 c2 hxo c3 hSm
    refine A3B.go A6 rfl ?_
    rcases c56 with rfl|rfl
    all_goals skip
    all_goals repeat' first|refine st ?_|((with_reducible apply A4);conv=>whnf)|refine⟨λ_=>?_,λ_=>?_⟩|fail
    all_goals first|rfl|(exfalso;omega)
  ·rw[hX2 c] at hq2
   have c3:¬op=3:=λh=>c (.inl h)
   have c5:¬op=5:=λh=>c (.inr (.inl h))
   have c6:¬op=6:=λh=>c (.inr (.inr h))
   by_cases c10:op=10
   ·subst c10
    by_cases cx:op'=10
    ·rw[if_pos (.inr ⟨rfl,cx⟩)] at hq2
     rw[hq2,c2]
     subst cx
     clear hX1 hX2 hq2 hqa1 hqa2 hsb c c1 c2 hxo c3 c5 c6 hSm hS
     refine A3B.go A6 rfl ?_
     repeat' first|refine st ?_|((with_reducible apply A4);conv=>whnf)|refine⟨λ_=>?_,λ_=>?_⟩|fail
     all_goals first|rfl|(exfalso;omega)
    ·rw[if_neg (by rintro(⟨h,_⟩|⟨_,h⟩)<;>omega)] at hq2
     rw[<- hq2] at hqa2
     rw[hqa2]
     clear hX1 hX2 hq2 hqa1 hqa2 hsb c c1 c2 hxo c3 c5 c6 hSm hS
     refine A3B.go A6 rfl ?_
     repeat' first|refine st ?_|((with_reducible apply A4);conv=>whnf)|refine⟨λ_=>?_,λ_=>?_⟩|fail
     all_goals first|rfl|(exfalso;omega)
   ·rw[if_neg (by rintro(⟨h,_⟩|⟨h,_⟩)<;>omega)] at hq2
    rw[<- hq2] at hqa2
    rw[hqa2]
    clear hX1 hX2 hq2 hqa1 hqa2 hsb c c1 c2 hxo hSm hS
    refine A3B.go A6 rfl ?_
    repeat' first|refine st ?_|((with_reducible apply A4);conv=>whnf)|refine⟨λ_=>?_,λ_=>?_⟩|fail
    all_goals first|rfl|(exfalso;omega)
end Go.Proofs
end
section
namespace Go.Proofs
open Go.Bi
theorem C3T:∀(a b:List B4),(∀x∈a,∀y∈b,K0 x y<=0)->P6 a b=a++b
 |[],b,_=>by rw[P6];rfl
 |x::a,[],_=>by rw[A5Q,W2]
 |x::a,y::b,h=>by
  have h1:=h x (by simp) y (by simp)
  have h2:=A0N.sw x y
  rw[P6,if_neg (by omega),C3T a (y::b) λu hu v hv=>h u (by simp[hu]) v hv];rfl
theorem A7z:∀(n:Nat)(l:List B4),l.length<=n->Y8 l->D2 l=l
 |0,l,h,_=>by rw[D2,dif_pos (by omega)]
 |n+1,l,h,hs=>by
  rw[D2]
  split
  ·rfl
  ·rename_i h1
   have h2:Y8 (l.take (l.length / 2)):=List.Pairwise.sublist (List.take_sublist _ _) hs
   have h3:Y8 (l.drop (l.length / 2)):=List.Pairwise.sublist (List.drop_sublist _ _) hs
   have h4:Y8 (l.take (l.length / 2)++l.drop (l.length / 2)):=by rw[A6n];exact hs
   rw[A7z n _ (by rw[L6];omega) h2,A7z n _ (by rw[Y6];omega) h3,C3T _ _ (A6m.1 h4).2.2,A6n]
def Sst(l:List B4):Prop:=l.Pairwise λa b=>K0 a b<0
theorem Sst.srt{l:List B4}(h:Sst l):Y8 l:=List.Pairwise.imp (λh=>by omega) h
theorem C2p:∀(l:List B4)(p:B4),Sst (p::l)->P4 (some p) l=l
 |[],_,_=>rfl
 |x::r,p,h=>by
  have h1:=A13.1 h
  have h2:=h1.1 x (by simp)
  rw[P4,if_neg (by omega),C2p r x h1.2]
theorem C2q:∀(l:List B4)(p:B4),Y8 (p::l)->Sst (p::P4 (some p) l)
 |[],p,_=>by simp[P4,Sst]
 |x::r,p,h=>by
  have h1:=A13.1 h
  have h2:=h1.1 x (by simp)
  have ih:=C2q r x h1.2
  rw[P4]
  by_cases h3:K0 p x=0
  ·rw[if_pos h3,(A0N.eq _ _).1 h3];exact ih
  ·rw[if_neg h3]
   refine A13.2 ⟨λy hy=>?_,ih⟩
   rcases I2.1 hy with rfl|hy
   ·omega
   ·exact A0N.tr _ x _ (by omega) ((A13.1 ih).1 y hy)
theorem D8e{l:List B4}(h:Y8 l):Sst (P4 none l):=by
 cases l with
 |nil=>exact List.Pairwise.nil
 |cons x r=>rw[P4];exact C2q r x h
theorem D8d{l:List B4}(h:Sst l):P4 none l=l:=by
 cases l with
 |nil=>rfl
 |cons x r=>rw[P4,C2p r x h]
theorem C4A(f:Nat->Nat->Int):∀(w:List (B4×Nat))(ms:List Nat),A5h w->Y8 (X2 f w ms)
 |[],_,_=>by simp[X2,Y8]
 |p::r,[],_=>by simp[X2,Y8]
 |p::r,m::ms,h=>by
  have h1:=A13.1 h
  rw[X2]
  refine A6m.2 ⟨List.pairwise_replicate.2 (.inr (by have:=(A0N.eq p.1 p.1).2 rfl;omega)),C4A f r ms h1.2,λu hu v hv=>?_⟩
  obtain⟨_,rfl⟩:=A8y.1 hu
  obtain⟨q,hq,rfl⟩:=B3k f r ms v hv
  have:=h1.1 q hq
  omega
theorem C2F(I:List Bg)(p:Pl):∃L,(F7 I p).rows=H9 L/\Y8 L/\(p.op=10->Sst L):=by
 obtain⟨o,ni,ins⟩:=p
 rw[A2t]
 show ∃L,_/\_/\(o.op=10->_)
 unfold Z1
 by_cases h10:o.op=10
 ·rw[if_neg (by omega),if_neg (by omega),if_neg (by omega),if_neg (by omega),if_pos h10]
  have h:=D8e (A4Q _ (A8 ((ins.map (F7 I)).getD 0 K9).rows) (D4 _))
  exact⟨_,rfl,h.srt,λ_=>h⟩
 ·repeat' split
  all_goals first|exact⟨_,rfl,A4Q _ _ (D4 _),λh=>absurd h h10⟩|exact⟨_,rfl,C4A _ _ _ (C2b _),λh=>absurd h h10⟩|(exfalso;omega)
theorem B3a{ks:List Int}{e:Ex}(h:N4 ks e=0):(F5 ks e).2=0/\((F5 ks e).1=3\/(F5 ks e).1=0)/\I6 e<=24:=by
 unfold N4 S8 at h
 by_cases hd:24<I6 e
 ·rw[if_pos hd] at h;cases h
 ·rw[if_neg hd] at h
  split at h
  ·rename_i h1
   split at h
   ·rename_i h2;exact⟨h1,h2,by omega⟩
   ·cases h
  ·rename_i h1;exact absurd h h1
theorem B39{ks:List Int}{e:Ex}(h1:(F5 ks e).2=0)(h2:(F5 ks e).1=3\/(F5 ks e).1=0)(h3:I6 e<=24):N4 ks e=0:=by
 have:S8 ks e=F5 ks e:=if_neg (by omega)
 unfold N4
 rw[this,if_pos h1,if_pos h2]
theorem C4p{ks:List Int}(hks:ks.length<=1073741824){e:Ex}(h:N4 ks e=0):N4 ks (J1 (A9 0 e))=0/\∀r,ev r (J1 (A9 0 e))=ev r e:=by
 obtain⟨h1,h2,h3⟩:=B3a h
 obtain⟨a1,a2,a3⟩:=B0b ks hks e h1
 obtain⟨b1,b2,b3,b4⟩:=E21 ks (A9 0 e) (by rw[a1];exact h1)
 rw[a1] at b3
 rw[a3] at b4
 refine⟨B39 b2 ?_ (by omega),λr=>by rw[b1,a2]⟩
 rcases b3 with b3|b3
 ·rw[b3];exact h2
 ·exact .inr b3
theorem B3c{ks:List Int}(hks:ks.length<=1073741824):∀{xs:List Ex},(G6 ks xs).2=0->G6 ks (xs.map (A9 0))=G6 ks xs/\∀r,S1 (xs.map (A9 0)) r=S1 xs r
 |[],_=>⟨rfl,λ_=>rfl⟩
 |x::l,h=>by
  rw[G6] at h
  by_cases h1:(S8 ks x).2=0
  rotate_left
  ·rw[if_neg h1] at h;exact absurd h h1
  rw[if_pos h1] at h
  by_cases h2:(S8 ks x).1=0
  ·rw[if_pos h2] at h;cases h
  rw[if_neg h2] at h
  by_cases h3:(G6 ks l).2=0
  rotate_left
  ·rw[if_neg h3] at h;exact absurd h h3
  obtain⟨i1,i2⟩:=B3c hks h3
  have hd:¬24<I6 x:=λhd=>by unfold S8 at h1;rw[if_pos hd] at h1;cases h1
  have h1':(F5 ks x).2=0:=by unfold S8 at h1;rw[if_neg hd] at h1;exact h1
  obtain⟨a1,a2,a3⟩:=B0b ks hks x h1'
  have hc:S8 ks (A9 0 x)=S8 ks x:=by unfold S8;rw[a3,a1]
  refine⟨?_,λr=>?_⟩
  ·rw[G5,G6,G6,hc,i1]
  ·have:=i2 r
   unfold S1 at this ⊢
   rw[G5,G5,G5,a2,this]
theorem E20{e:Ex}(h:T3 e A2O=true)(r:B4):ev r e=⟨3,1,[]⟩:=by
 obtain⟨op,n,v,nm,nl,args⟩:=e
 have h:T3 (.mk op n v nm nl args) (.mk 1 0 ⟨3,1,[]⟩ [] true [])=true:=h
 rw[B3B] at h
 simp only[J9,decide_eq_true_eq] at h
 obtain⟨⟨⟨⟨rfl,rfl⟩,rfl⟩,rfl⟩,h5⟩:=h
 cases args with
 |cons a l=>simp[smL] at h5
 |nil=>
  rw[m7]
  have hf:J7 1 0 ⟨3,1,[]⟩ [] ([]:List Ex).length=true:=by decide
  rw[hf];rfl
theorem B2F{e e':Ex}(h:K6 e=K6 e')(left:Bool)(nb:Nat)(B:List B4):∀A,M8 e left nb B A=M8 e' left nb B A
 |[]=>rfl
 |a::r=>by
  have hA:R8 e B a=R8 e' B a:=by unfold R8;rw[h]
  rw[M8,M8,hA,B2F h left nb B r]
def flO(o:Po)(ins:List Pl):Bool:=!(decide (o.op=3)&&T3 o.pred A2O)&&(decide (o.op≠10)||decide (ins.length≠1)||decide ((ins[0]?).map Pl.op≠some 10))
mutual
/-- No node without effect. -/
def flB:Pl->Bool
 |.mk o _ ins=>A7c ins&&flO o ins
def A7c:List Pl->Bool
 |[]=>true
 |p::r=>flB p&&A7c r
end
theorem C32:∀l,A7c l=l.all flB
 |[]=>by simp[A7c]
 |e::r=>by simp[A7c,C32 r]
theorem C31(o:Po)(ni:Bool)(ins:List Pl):flB (.mk o ni ins)=(ins.all flB&&flO o ins):=by rw[flB,C32]
end Go.Proofs
end
section
namespace Go.Proofs
open Go.Bi
theorem B2T:∀(n:Nat)(a b:List B4),a.length+b.length<=n->(P6 a b).Perm (a++b)
 |_,[],b,_=>by rw[P6];exact List.Perm.refl _
 |_,x::a,[],_=>by rw[A5Q,W2]
 |0,x::a,y::b,h=>by simp at h
 |n+1,x::a,y::b,h=>by
  simp only[H7] at h
  rw[P6]
  split
  ·have:=B2T n (x::a) b (by simp only[H7];omega)
   exact(List.Perm.cons y this).trans (List.perm_middle (a:=y) (l₁:=x::a) (l₂:=b)).symm
  ·have:=B2T n a (y::b) (by simp only[H7];omega)
   exact List.Perm.cons x this
theorem A9N:∀(n:Nat)(l:List B4),l.length<=n->(D2 l).Perm l
 |0,l,h=>by rw[D2,dif_pos (by omega)]
 |n+1,l,h=>by
  rw[D2]
  split
  ·exact List.Perm.refl _
  ·rename_i h1
   have h2:=A9N n (l.take (l.length / 2)) (by rw[L6];omega)
   have h3:=A9N n (l.drop (l.length / 2)) (by rw[Y6];omega)
   have h4:=(B2T _ _ _ (D4 _)).trans (h2.append h3)
   rw[A6n] at h4
   exact h4
theorem C50:∀(a b:List B4),Y8 a->Y8 b->a.Perm b->a=b
 |[],b,_,_,h=>by rw[List.nil_perm.1 h]
 |x::a,[],_,_,h=>by have:=h.length_eq;simp at this
 |x::a,y::b,ha,hb,h=>by
  have ha':=A13.1 ha
  have hb':=A13.1 hb
  have hxy:x=y:=by
   rcases I2.1 (h.subset (Y7 ..)) with h1|h1
   ·exact h1
   ·rcases I2.1 (h.symm.subset (Y7 ..)) with h2|h2
    ·exact h2.symm
    ·have k1:=hb'.1 x h1
     have k2:=ha'.1 y h2
     have k3:=A0N.sw x y
     exact(A0N.eq x y).1 (by omega)
  subst hxy
  rw[C50 a b ha'.2 hb'.2 (List.Perm.cons_inv h)]
theorem C51{l:List B4}(p:B4->Bool)(h:Y8 l):Y8 (l.filter p):=List.Pairwise.sublist List.filter_sublist h
theorem C4l(p:B4->Bool)(l:List B4):(D2 l).filter p=D2 (l.filter p):=
 C50 _ _ (C51 p (A4Q _ _ (D4 _))) (A4Q _ _ (D4 _)) (((A9N _ _ (D4 _)).filter p).trans (A9N _ _ (D4 _)).symm)
theorem D9k{e:Ex}{B:List B4}{a:B4}{q q' pb:B4->Bool}(h:∀b∈B,q (a++b)=(pb b&&q' (a++b))):(R8 e B a).filter q=(R8 e (B.filter pb) a).filter q':=by
 induction B with
 |nil=>rfl
 |cons b B ih=>
  have h1:=h b (by simp)
  have h2:=ih λx hx=>h x (by simp[hx])
  unfold R8 at h2 ⊢
  cases hb:pb b with
  |true=>
   rw[hb,R2] at h1
   cases ht:K6 e (a++b) with
   |true=>
    simp only[G5,j9,hb,ht,h1,if_true]
    rw[h2]
   |false=>
    simp only[G5,j9,hb,ht,if_true,N6,if_false]
    exact h2
  |false=>
   rw[hb,Bool.false_and] at h1
   cases ht:K6 e (a++b) with
   |true=>
    simp only[G5,j9,hb,ht,h1,if_true,N6,if_false]
    exact h2
   |false=>
    simp only[G5,j9,hb,ht,N6,if_false]
    exact h2
theorem C3t{e:Ex}{B:List B4}{a:B4}{q:B4->Bool}(h:∀b∈B,q (a++b)=false):(R8 e B a).filter q=[]:=by
 rw[List.filter_eq_nil_iff]
 intro r hr
 unfold R8 at hr
 obtain⟨b,hb,rfl⟩:=D9.1 (A06.1 hr).1
 rw[h b hb];simp
theorem C3u{e:Ex}{nb:Nat}{B:List B4}{q q' pa pb:B4->Bool}:∀A:List B4,(∀a∈A,∀b∈B,q (a++b)=(pa a&&(pb b&&q' (a++b))))->(M8 e false nb B A).filter q=(M8 e false nb (B.filter pb) (A.filter pa)).filter q'
 |[],_=>rfl
 |a::A,h=>by
  have ih:=C3u (e:=e) (nb:=nb) A λx hx=>h x (by simp[hx])
  have ha:=h a (by simp)
  rw[M8,A0E,A0E,ih,j9]
  have e1:∀l:List B4,jnO false nb a l=[]:=λl=>rfl
  rw[e1,List.filter_nil,W2]
  cases hp:pa a with
  |true=>
   rw[if_pos rfl,M8,A0E,A0E,e1,List.filter_nil,W2]
   rw[D9k (pb:=pb) (q':=q') λb hb=>by rw[ha b hb,hp,R2]]
  |false=>
   rw[if_neg (by simp),C3t λb hb=>by rw[ha b hb,hp,Bool.false_and]];rfl
theorem C3v{e:Ex}{nb:Nat}{B:List B4}{q q' pa:B4->Bool}:∀A:List B4,(∀a∈A,∀b,(b∈B\/b=List.replicate nb C5)->q (a++b)=(pa a&&q' (a++b)))->(M8 e true nb B A).filter q=(M8 e true nb B (A.filter pa)).filter q'
 |[],_=>rfl
 |a::A,h=>by
  have ih:=C3v (e:=e) A λx hx=>h x (by simp[hx])
  have ha:=h a (by simp)
  rw[M8,A0E,A0E,ih,j9]
  cases hp:pa a with
  |true=>
   rw[if_pos rfl,M8,A0E,A0E]
   have e1:∀r∈R8 e B a,q r=q' r:=λr hr=>by
    unfold R8 at hr
    obtain⟨b,hb,rfl⟩:=D9.1 (A06.1 hr).1
    rw[ha b (.inl hb),hp,R2]
   have e2:∀r∈jnO true nb a (R8 e B a),q r=q' r:=λr hr=>by
    unfold jnO at hr
    split at hr
    ·rw[O4] at hr
     subst hr
     rw[ha _ (.inr rfl),hp,R2]
    ·cases hr
   rw[List.filter_congr e1,List.filter_congr e2]
  |false=>
   rw[if_neg (by simp)]
   have e1:(R8 e B a).filter q=[]:=C3t λb hb=>by rw[ha b (.inl hb),hp,Bool.false_and]
   have e2:(jnO true nb a (R8 e B a)).filter q=[]:=by
    rw[List.filter_eq_nil_iff]
    intro r hr
    unfold jnO at hr
    split at hr
    ·rw[O4] at hr
     subst hr
     rw[ha _ (.inr rfl),hp,Bool.false_and];simp
    ·cases hr
   rw[e1,e2];rfl
end Go.Proofs
end
section
namespace Go.Proofs
open Go.Bi
theorem E2u{t:Int}(h:j0 t):L8 (O9 t)=t:=by
 rcases h with rfl|rfl|rfl<;>decide
theorem C39:∀(l:List Vl){t:Int},j0 t->(l.foldl (U9 5) t=2↔t=2/\∀v∈l,L8 v=2)
 |[],t,_=>by simp
 |a::l,t,ht=>by
  rw[A11,C39 l (A9D (.inl rfl) ht a)]
  have hx:U9 5 t a=2↔t=2/\L8 a=2:=by
   have ha:=B0p a
   unfold U9
   rcases ht with rfl|rfl|rfl<;>rcases ha with h|h|h<;>rw[h]<;>decide
  rw[hx]
  constructor
  ·rintro⟨⟨h1,h2⟩,h3⟩
   exact⟨h1,λv hv=>by rcases I2.1 hv with rfl|hv;exact h2;exact h3 v hv⟩
  ·rintro⟨h1,h2⟩
   exact⟨⟨h1,h2 a (by simp)⟩,λv hv=>h2 v (by simp[hv])⟩
theorem C3q{op n:Int}{v:Vl}{nm:List UInt8}{k:Nat}(h:A2x op n v nm k=true):op=5/\y8 n v nm k=true:=by
 obtain⟨h1,h2⟩:=of_decide_eq_true h
 exact⟨h1,decide_eq_true h2⟩
theorem C5j(r:B4){n:Int}{v:Vl}{nm:List UInt8}(nl:Bool){l:List Ex}(h:y8 n v nm l.length=true):K6 (.mk 5 n v nm nl l) r=l.all λx=>K6 x r:=by
 have hr:j0 ((l.map (ev r)).foldl (U9 5) 2):=C3b (.inl rfl) _ (.inr (.inr rfl))
 unfold K6
 rw[A9k r nl (.inl rfl) h]
 show decide (L8 (O9 ((l.map (ev r)).foldl (U9 5) 2))=2)=_
 rw[E2u hr,A0Z,decide_eq_true_eq,C39 _ (.inr (.inr rfl)),K8]
 constructor
 ·rintro⟨_,h⟩ x hx
  exact decide_eq_true (h _ (D9.2 ⟨x,hx,rfl⟩))
 ·intro h
  refine⟨rfl,λv hv=>?_⟩
  obtain⟨x,hx,rfl⟩:=D9.1 hv
  exact of_decide_eq_true (h x hx)
theorem E2e(r:B4):∀e:Ex,K6 e r=(cj e).all λx=>K6 x r:=by
 refine Ex.ind λop n v nm nl args ih=>?_
 rw[A2o]
 split
 ·rename_i h
  obtain⟨rfl,h2⟩:=C3q h
  rw[C5j r nl h2]
  rw[A0Z,K8,K8]
  constructor
  ·intro h x hx
   obtain⟨a,ha,hxa⟩:=A0I.1 hx
   have:=h a ha
   rw[ih a ha,K8] at this
   exact this x hxa
  ·intro h a ha
   rw[ih a ha,K8]
   exact λx hx=>h x (A0I.2 ⟨a,ha,hx⟩)
 ·simp
theorem C5i(r:B4)(nl:Bool):∀l:List Ex,K6 (K3 nl l) r=l.all λx=>K6 x r
 |[]=>rfl
 |[x]=>by simp[K3]
 |x::y::l=>by
  rw[A3K (by simp)]
  exact C5j r nl (decide_eq_true ⟨by simp,rfl,rfl,rfl⟩)
def A3b(e:Ex):Prop:=cj e=[e]
theorem D7B:∀e:Ex,∀x∈cj e,A3b x:=by
 refine Ex.ind λop n v nm nl args ih x hx=>?_
 have hq:=A2o op n v nm nl args
 rw[hq] at hx
 split at hx
 ·obtain⟨a,ha,hxa⟩:=A0I.1 hx
  exact ih a ha x hxa
 ·rename_i h
  cases O4.1 hx
  unfold A3b
  rw[hq,if_neg h]
theorem A6O{nl:Bool}:∀{l:List Ex},(∀x∈l,A3b x)->l≠[]->cj (K3 nl l)=l
 |[],_,h=>absurd rfl h
 |[x],h,_=>h x (by simp)
 |x::y::l,h,_=>by
  rw[A3K (by simp),A2o]
  have e:A2x 5 0 C5 [] (x::y::l).length=true:=decide_eq_true ⟨rfl,by simp,rfl,rfl,rfl⟩
  rw[if_pos e]
  have:∀l:List Ex,(∀x∈l,A3b x)->l.flatMap cj=l:=by
   intro l
   induction l with
   |nil=>intro _;rfl
   |cons a l ih=>intro h;rw[A55,h a (by simp),ih λz hz=>h z (by simp[hz])];rfl
  exact this _ h
def V0(ks:List Int)(e:Ex):Prop:=(F5 ks e).2=0/\((F5 ks e).1=3\/(F5 ks e).1=0)
theorem C43{ks:List Int}{n:Int}{v:Vl}{nm:List UInt8}{nl:Bool}{l:List Ex}(h:y8 n v nm l.length=true):V0 ks (.mk 5 n v nm nl l)↔∀x∈l,V0 ks x:=by
 obtain⟨h1,rfl,rfl,rfl⟩:=of_decide_eq_true h
 have hc:(U7 5 l.length).1=true:=by
  show decide (2<=(l.length:Int))=true
  exact decide_eq_true (by omega)
 have hf:J7 5 0 C5 [] l.length=true:=by
  rw[A7e 5 0 C5 _ hc (by omega) (by omega) (by omega)];decide
 have hres:∀m:List Int,N0 5 C5 m=(3,allK m 3):=λm=>by
  unfold N0;rw[if_neg (by omega),if_pos (by omega)]
 constructor
 ·rintro⟨a,b⟩ x hx
  obtain⟨_,g,_⟩:=A4B a
  obtain⟨g1,g2,_⟩:=g (by omega)
  refine⟨g1 x hx,?_⟩
  rw[hres] at g2
  have g2:=K8.1 g2 _ (D9.2 ⟨x,hx,rfl⟩)
  simp only[A2R,decide_eq_true_eq] at g2
  omega
 ·intro g
  have hr:(N0 5 C5 (l.map λa=>(F5 ks a).1)).2=true:=by
   rw[hres]
   refine K8.2 λk hk=>?_
   obtain⟨x,hx,rfl⟩:=D9.1 hk
   have:=(g x hx).2
   simp only[A2R,decide_eq_true_eq]
   omega
  unfold V0
  rw[A96 hf (by omega) (λa ha=>(g a ha).1) hr,hres]
  exact⟨rfl,.inl rfl⟩
theorem E0d{ks:List Int}:∀e:Ex,V0 ks e↔∀x∈cj e,V0 ks x:=by
 refine Ex.ind λop n v nm nl args ih=>?_
 rw[A2o]
 split
 ·rename_i h
  obtain⟨rfl,h2⟩:=C3q h
  rw[C43 h2]
  constructor
  ·intro h x hx
   obtain⟨a,ha,hxa⟩:=A0I.1 hx
   exact(ih a ha).1 (h a ha) x hxa
  ·intro h a ha
   exact(ih a ha).2 λx hx=>h x (A0I.2 ⟨a,ha,hx⟩)
 ·simp
theorem A9L{ks:List Int}{nl:Bool}:∀{l:List Ex},V0 ks (K3 nl l)↔∀x∈l,V0 ks x
 |[]=>by
  refine⟨λ_ x hx=>absurd hx (by simp),λ_=>?_⟩
  have:F5 ks (K3 nl [])=(3,0):=A95 (w:=T4 true) (by decide)
  unfold V0;rw[this];exact⟨rfl,.inl rfl⟩
 |[x]=>by simp[K3]
 |x::y::l=>by
  rw[A3K (by simp)]
  exact C43 (decide_eq_true ⟨by simp,rfl,rfl,rfl⟩)
theorem A9P{ks:List Int}{e:Ex}:N4 ks e=0↔V0 ks e/\I6 e<=24:=by
 constructor
 ·intro h
  obtain⟨h1,h2,h3⟩:=B3a h
  exact⟨⟨h1,h2⟩,h3⟩
 ·rintro⟨⟨h1,h2⟩,h3⟩
  exact B39 h1 h2 h3
end Go.Proofs
end
section
namespace Go.Proofs
open Go.Bi
theorem B3j{ks:List Int}:∀e:Ex,(F5 ks e).2=0->∀c∈K5 e,0<=c/\c<ks.length:=by
 refine Ex.ind λop n v nm nl args ih h c hc=>?_
 obtain⟨_,h1,h2⟩:=A4B h
 rw[A4S] at hc
 by_cases h3:op=2
 ·obtain⟨g1,g2,g3⟩:=h2 h3
  subst g3
  rw[if_pos h3] at hc
  simp only[List.flatMap_nil,W2,O4] at hc
  subst hc
  exact⟨g1,g2⟩
 ·rw[if_neg h3,A0J] at hc
  obtain⟨a,ha,hca⟩:=A0I.1 hc
  exact ih a ha ((h1 h3).1 a ha) c hca
theorem C38{n n':Int}{v:Vl}{nm:List UInt8}{k:Nat}:J7 2 n v nm k=J7 2 n' v nm k:=by
 unfold J7
 rw[if_neg (by decide),if_neg (by decide),if_pos rfl,if_neg (by decide),if_neg (by decide),if_pos rfl]
theorem C5y{n:Int}(h1:-1099511627776<=n)(h2:n<=1099511627776):M3 n=n:=by
 show IntKind.i64.wrap n=n
 rw[IntKind.wrap_i64]
 omega
theorem A94{ks:List Int}{n:Int}{v:Vl}{nm:List UInt8}{nl:Bool}(hf:J7 2 n v nm 0=true)(g:0<=n/\n<ks.length):F5 ks (.mk 2 n v nm nl [])=(ks.getD n.toNat 0,0):=by
 rw[A0a]
 show X4 2 n v nm ks 0 []=_
 unfold X4
 have h2c:(U7 2 ((0:Nat):Int)).2=true:=by decide
 rw[h2c,if_neg (by simp),hf,if_neg (by simp),if_pos rfl,if_pos g]
theorem D7A{ks ks':List Int}{k:Int}(hk:-4294967296<=k/\k<=4294967296)(hl:ks.length<=4294967296):∀e:Ex,(F5 ks e).2=0->(∀c∈K5 e,0<=c+k/\c+k<ks'.length/\ks'.getD (c+k).toNat 0=ks.getD c.toNat 0)->F5 ks' (A9 k e)=F5 ks e/\I6 (A9 k e)=I6 e:=by
 refine Ex.ind λop n v nm nl args ih h hc=>?_
 obtain⟨hf,h1,h2⟩:=A4B h
 rw[A4S] at hc
 by_cases h3:op=2
 ·obtain⟨g1,g2,g3⟩:=h2 h3
  subst g3
  subst h3
  obtain⟨q1,q2,q3⟩:=hc n (by simp)
  rw[A25,if_pos rfl,C5y (by omega) (by omega)]
  constructor
  ·rw[V5,A94 (by rw[C38 (n':=n)];exact hf) ⟨q1,q2⟩,A94 hf ⟨g1,g2⟩,q3]
  ·rw[X6,X6,V5]
 ·obtain⟨ha,hr,_⟩:=h1 h3
  rw[if_neg h3,A0J] at hc
  have ih':=λa hm=>ih a hm (ha a hm) λc h=>hc c (A0I.2 ⟨a,hm,h⟩)
  rw[A25,if_neg h3]
  constructor
  ·rw[A0a,A0a,D3,W3,show args.map (F5 ks' ∘ A9 k)=args.map (F5 ks) from P3 λa hm=>(ih' a hm).1,A39 hf h3,A39 hf h3]
  ·rw[X6,X6,W3,show args.map (I6 ∘ A9 k)=args.map I6 from P3 λa hm=>(ih' a hm).2]
theorem D7z{ks ks':List Int}:∀e:Ex,(F5 ks e).2=0->(∀c∈K5 e,0<=c/\c<ks'.length/\ks'.getD c.toNat 0=ks.getD c.toNat 0)->F5 ks' e=F5 ks e:=by
 refine Ex.ind λop n v nm nl args ih h hc=>?_
 obtain⟨hf,h1,h2⟩:=A4B h
 rw[A4S] at hc
 by_cases h3:op=2
 ·obtain⟨g1,g2,g3⟩:=h2 h3
  subst g3
  subst h3
  obtain⟨q1,q2,q3⟩:=hc n (by simp)
  rw[A94 hf ⟨q1,q2⟩,A94 hf ⟨g1,g2⟩,q3]
 ·obtain⟨ha,hr,_⟩:=h1 h3
  rw[if_neg h3,A0J] at hc
  have ih':=λa hm=>ih a hm (ha a hm) λc h=>hc c (A0I.2 ⟨a,hm,h⟩)
  rw[A0a,A0a,show args.map (F5 ks')=args.map (F5 ks) from P3 λa hm=>ih' a hm,A39 hf h3,A39 hf h3]
theorem D8N{row row':List Vl}{k:Int}:∀e:Ex,(∀c∈K5 e,b7 row' (M3 (c+k))=b7 row c)->ev row' (A9 k e)=ev row e:=by
 refine Ex.ind λop n v nm nl args ih h=>?_
 rw[A4S] at h
 rw[A25,m7,m7,D3,W3]
 have ha:args.map (ev row' ∘ A9 k)=args.map (ev row):=P3 λa ha=>ih a ha λc hc=>h c (A8x _ (A0I.2 ⟨a,ha,hc⟩))
 rw[ha]
 by_cases h2:op=2
 ·subst h2
  rw[if_pos rfl,C38 (n:=M3 (n+k)) (n':=n),B2n (n':=n) (row':=row) (λ_=>h n (by simp)) (λe=>absurd rfl e)]
 ·rw[if_neg h2,B2n (n':=n) (row':=row) (λe=>absurd e h2) (λ_=>rfl)]
theorem C1W{n:Int}{x:Ex}(h:T7 n x=0):∀c∈K5 x,c<n:=by
 intro c hc
 have hm:=(A9c x c).2 hc
 rcases A6U n x with ⟨_,h2⟩|⟨y,z,h1,h2,h3⟩
 ·rw[h2] at hm;cases hm
 ·have hy:y<n:=by omega
  obtain⟨i,hi,rfl⟩:=A1F.1 hm
  obtain⟨hl,h4⟩:=B3.1 h1
  have hp:=List.pairwise_iff_getElem.1 (C2e x)
  by_cases hlt:i<(U8 x).length-1
  ·have:=hp i ((U8 x).length-1) hi hl hlt
   omega
  ·have e:i=(U8 x).length-1:=by omega
   subst e
   omega
theorem C1X{n:Int}{x:Ex}(h:T7 n x=1):∀c∈K5 x,n<=c:=by
 intro c hc
 have hm:=(A9c x c).2 hc
 rcases A6U n x with ⟨_,h2⟩|⟨y,z,h1,h2,h3⟩
 ·rw[h2] at hm;cases hm
 ·have hz:n<=z:=by omega
  obtain⟨i,hi,rfl⟩:=A1F.1 hm
  obtain⟨hl,h4⟩:=B3.1 h2
  have hp:=List.pairwise_iff_getElem.1 (C2e x)
  by_cases hlt:0<i
  ·have:=hp 0 i hl hi hlt
   omega
  ·have e:i=0:=by omega
   subst e
   omega
theorem E2q{a b:B4}{c:Int}(h1:c<a.length):b7 (a++b) c=b7 a c:=by
 unfold b7 O3
 by_cases h0:c<0
 ·rw[if_pos (.inl h0),if_pos (.inl h0)]
 ·rw[if_neg (by rw[H3];omega),if_neg (by omega),H6,H6,P8 (by omega)]
theorem E2r{a b:B4}{c:Int}(h1:(a.length:Int)<=c):b7 (a++b) c=b7 b (c-a.length):=by
 unfold b7 O3
 by_cases h0:((a++b).length:Int)<=c
 ·rw[if_pos (.inr h0),if_pos (.inr (by rw[H3] at h0;omega))]
 ·rw[if_neg (by omega),if_neg (by rw[H3] at h0;omega),H6,H6,W8 (by omega)]
  congr 3
  omega
theorem E2f{e:Ex}{a b:B4}{n:Int}(hn:(a.length:Int)=n)(h:T7 n e=0):K6 e (a++b)=K6 e a:=by
 unfold K6
 rw[C2H e λc hc=>E2q (by have:=C1W h c hc;omega)]
theorem E2g{ks:List Int}{e:Ex}{a b:B4}{n:Int}(hn:(a.length:Int)=n)(hk:ks.length<=4294967296)(ho:(F5 ks e).2=0)(h:T7 n e=1):K6 (A9 (-n) e) b=K6 e (a++b):=by
 unfold K6
 rw[D8N (row:=a++b) (row':=b) (k:=-n) e λc hc=>by
  have h1:=C1X h c hc
  have h2:=B3j e ho c hc
  rw[E2r (by omega),C5y (by omega) (by omega)]
  congr 1
  omega]
theorem D96{a b:List Int}{c:Int}(h:0<=c)(h1:c<a.length):(a++b).getD c.toNat 0=a.getD c.toNat 0:=by
 rw[H6,H6,P8 (by omega)]
theorem E0e{ka kb:List Int}{e:Ex}(h:V0 (ka++kb) e)(hc:T7 ka.length e=0):V0 ka e:=by
 have h2:=D7z (ks':=ka) e h.1 λc hm=>by
  have h1:=C1W hc c hm
  have h2:=(B3j e h.1 c hm).1
  exact⟨h2,h1,(D96 h2 h1).symm⟩
 unfold V0 at h ⊢
 rw[h2];exact h
theorem E0f{ka kb:List Int}{e:Ex}(hl:(ka++kb).length<=4294967296)(h:V0 (ka++kb) e)(hc:T7 ka.length e=1):V0 kb (A9 (-(ka.length:Int)) e)/\I6 (A9 (-(ka.length:Int)) e)=I6 e:=by
 have hl':ka.length<=4294967296:=by rw[H3] at hl;omega
 have h2:=D7A (ks:=ka++kb) (ks':=kb) (k:=-(ka.length:Int)) (by omega) hl e h.1 λc hm=>by
  have h1:=C1X hc c hm
  have h2:=(B3j e h.1 c hm).2
  rw[H3] at h2
  refine⟨by omega,by omega,?_⟩
  rw[H6,H6,W8 (by omega)]
  congr 2
  omega
 refine⟨?_,h2.2⟩
 unfold V0 at h ⊢
 rw[h2.1];exact h
end Go.Proofs
end
section
namespace Go.Proofs
open Go.Bi
structure e8(o o':Po):Prop where
 op:o'.op=o.op
 n:o'.n=o.n
 nk:o'.nk=o.nk
 ki:o'.ki=o.ki
 rows:o'.rows=o.rows
 keys:o'.keys=o.keys
 aggs:o'.aggs=o.aggs
 pred:o.op=3\/o.op=5\/o.op=6->∀ks:List Int,ks.length<=1073741824->N4 ks o.pred=0->N4 ks o'.pred=0/\∀r,ev r o'.pred=ev r o.pred
 xs:∀ks:List Int,ks.length<=1073741824->(G6 ks o.xs).2=0->G6 ks o'.xs=G6 ks o.xs/\∀r,S1 o'.xs r=S1 o.xs r
theorem e8.fd(o:Po):e8 o (fdO o):=by
 refine⟨rfl,rfl,rfl,rfl,rfl,rfl,rfl,λh ks hks hp=>?_,λks hks hx=>B3c hks hx⟩
 show N4 ks (fdX o)=0/\∀r,ev r (fdX o)=ev r o.pred
 unfold fdX
 rw[if_pos h]
 exact C4p hks hp
theorem e8.cp(o:Po):e8 o (l9 o):=by
 refine⟨rfl,rfl,rfl,rfl,rfl,rfl,rfl,λh ks hks hp=>?_,λks hks hx=>B3c hks hx⟩
 show N4 ks (A9 0 o.pred)=0/\∀r,ev r (A9 0 o.pred)=ev r o.pred
 obtain⟨h1,h2,h3⟩:=B3a hp
 obtain⟨a1,a2,a3⟩:=B0b ks hks _ h1
 exact⟨B39 (by rw[a1];exact h1) (by rw[a1];exact h2) (by omega),a2⟩
theorem C4C{K:List Kw}{o o':Po}(h:e8 o o'){k k':List Kw}(hk:∀i,(k'.getD i J4).ks=(k.getD i J4).ks)(hl:∀i,(k.getD i J4).ks.length<=48)(h0:(I1 K o k).2=0):(I1 K o' k').2=0/\(I1 K o' k').1.ks=(I1 K o k).1.ks:=by
 have l0:=hl 0
 have l1:=hl 1
 unfold I1 at h0 ⊢
 rw[h.op]
 by_cases c1:o.op=1
 ·rw[if_pos c1] at h0;rw[if_pos c1,if_pos c1,h.n];exact⟨h0,rfl⟩
 rw[if_neg c1] at h0;rw[if_neg c1,if_neg c1]
 by_cases c2:o.op=2
 ·rw[if_pos c2] at h0;rw[if_pos c2,if_pos c2,h.nk,h.ki,h.rows];exact⟨h0,rfl⟩
 rw[if_neg c2] at h0;rw[if_neg c2,if_neg c2]
 by_cases c4:o.op=4
 ·rw[if_pos c4] at h0;rw[if_pos c4,if_pos c4,hk 0,(h.xs _ (by omega) h0).1];exact⟨h0,rfl⟩
 rw[if_neg c4] at h0;rw[if_neg c4,if_neg c4]
 by_cases c11:o.op=11
 ·rw[if_pos c11] at h0;rw[if_pos c11,if_pos c11,hk 0,h.keys,h.aggs];exact⟨h0,rfl⟩
 rw[if_neg c11] at h0;rw[if_neg c11,if_neg c11]
 by_cases c10:o.op=10
 ·rw[if_pos c10] at h0;rw[if_pos c10,if_pos c10];exact⟨rfl,hk 0⟩
 rw[if_neg c10] at h0;rw[if_neg c10,if_neg c10]
 by_cases c3:o.op=3
 ·rw[if_pos c3] at h0;rw[if_pos c3,if_pos c3]
  refine⟨?_,hk 0⟩
  show N4 _ _=0
  rw[hk 0]
  exact(h.pred (.inl c3) _ (by omega) h0).1
 rw[if_neg c3] at h0;rw[if_neg c3,if_neg c3]
 by_cases c5:o.op=5\/o.op=6
 ·rw[if_pos c5] at h0;rw[if_pos c5,if_pos c5,hk 0,hk 1]
  exact⟨(h.pred (.inr c5) _ (by rw[H3];omega) h0).1,rfl⟩
 rw[if_neg c5] at h0;rw[if_neg c5,if_neg c5,hk 0,hk 1]
 by_cases d1:(k.getD 0 J4).ks.length=(k.getD 1 J4).ks.length
 rotate_left
 ·rw[if_neg d1] at h0;cases h0
 rw[if_pos d1] at h0;rw[if_pos d1,if_pos d1]
 by_cases d2:(k.getD 0 J4).ks=(k.getD 1 J4).ks
 rotate_left
 ·rw[if_neg d2] at h0;cases h0
 rw[if_pos d2,if_pos d2]
 exact⟨rfl,hk 0⟩
theorem C2S:∀{l:List (Kw×Int)},(∀x∈l,x.2=0)->t7 l=0
 |[],_=>rfl
 |y::l,h=>by rw[t7,if_pos (h y (by simp))];exact C2S λx hx=>h x (by simp[hx])
theorem B2V{K:List Kw}{o:Po}{ni:Bool}{ins:List Pl}(h1:0<=J8 o.op)(h2:(ins.length:Int)=J8 o.op)(h3:∀p∈ins,(C4 K p).2=0)(h4:(I1 K o (ins.map λp=>(C4 K p).1)).2=0)(h5:0<(I1 K o (ins.map λp=>(C4 K p).1)).1.ks.length)(h6:(I1 K o (ins.map λp=>(C4 K p).1)).1.ks.length<=48) :
  C4 K (.mk o ni ins)=((I1 K o (ins.map λp=>(C4 K p).1)).1,0):=by
 rw[A5R,ndN,if_neg (by omega),if_pos h2,if_pos (C2S λx hx=>by obtain⟨p,hp,rfl⟩:=D9.1 hx;exact h3 p hp),W3]
 show ndR (I1 K o (ins.map λp=>(C4 K p).1))=_
 rw[ndR,if_pos h4,if_neg (by omega)]
theorem A42{α β:Type}(f:α->β)(l:List α)(i:Nat)(d:β):(l.map f).getD i d=((l[i]?).map f).getD d:=by
 rw[H6,I7]
theorem C3W{K:List Kw}{o o':Po}(h:e8 o o'){ni ni':Bool}{ins:List Pl}{Φ:Pl->Pl}(h0:(C4 K (.mk o ni ins)).2=0)(hc:∀x∈ins,(C4 K (Φ x)).2=0/\(C4 K (Φ x)).1.ks=(C4 K x).1.ks) :
  (C4 K (.mk o' ni' (ins.map Φ))).2=0/\(C4 K (.mk o' ni' (ins.map Φ))).1.ks=(C4 K (.mk o ni ins)).1.ks:=by
 obtain⟨k1,k2,k3,k4,k5,k6⟩:=n5 h0
 have hn:=m9 K (.mk o ni ins)
 rw[k5] at k6 hn ⊢
 have hr:=C4C (K:=K) h (k:=ins.map λp=>(C4 K p).1) (k':=(ins.map Φ).map λp=>(C4 K p).1) (λi=>by
  rw[A42,A42,I7]
  cases hx:ins[i]? with
  |none=>rfl
  |some x=>exact(hc x (C3 hx)).2) (λi=>by
  rw[A42]
  cases hx:ins[i]? with
  |none=>exact K1 _
  |some x=>exact m9 K x) k4
 have:=B2V (K:=K) (o:=o') (ni:=ni') (ins:=ins.map Φ) (by rw[h.op];exact k1) (by rw[D3,h.op];exact k2) (λp hp=>by obtain⟨x,hx,rfl⟩:=D9.1 hp;exact(hc x hx).1) hr.1 (by rw[hr.2];exact k6) (by rw[hr.2];exact hn)
 rw[this]
 exact⟨rfl,hr.2⟩
theorem D8E{I:List Bg}{o o':Po}(h:e8 o o'){b b':List Bg}(hb:∀i,(b'.getD i K9).ki=(b.getD i K9).ki/\(b'.getD i K9).rows=(b.getD i K9).rows)(hp:o.op=3\/o.op=5\/o.op=6->K6 o'.pred=K6 o.pred)(hx:o.op=4->G6 (b.getD 0 K9).ki o'.xs=G6 (b.getD 0 K9).ki o.xs/\S1 o'.xs=S1 o.xs) :
  (Z1 I o' b').ki=(Z1 I o b).ki/\(Z1 I o' b').rows=(Z1 I o b).rows:=by
 obtain⟨a0,a1⟩:=hb 0
 obtain⟨b0,b1⟩:=hb 1
 unfold Z1
 rw[h.op]
 by_cases c1:o.op=1
 ·rw[if_pos c1,if_pos c1,h.n];exact⟨rfl,rfl⟩
 rw[if_neg c1,if_neg c1]
 by_cases c2:o.op=2
 ·rw[if_pos c2,if_pos c2,h.ki,h.rows];exact⟨rfl,rfl⟩
 rw[if_neg c2,if_neg c2]
 by_cases c3:o.op=3
 ·rw[if_pos c3,if_pos c3,a0,a1,hp (.inl c3)];exact⟨rfl,rfl⟩
 rw[if_neg c3,if_neg c3]
 by_cases c4:o.op=4
 ·rw[if_pos c4,if_pos c4,a0,a1,(hx c4).1,(hx c4).2];exact⟨rfl,rfl⟩
 rw[if_neg c4,if_neg c4]
 by_cases c10:o.op=10
 ·rw[if_pos c10,if_pos c10,a0,a1];exact⟨rfl,rfl⟩
 rw[if_neg c10,if_neg c10]
 by_cases c11:o.op=11
 ·rw[if_pos c11,if_pos c11,a0,a1,h.keys,h.aggs];exact⟨rfl,rfl⟩
 rw[if_neg c11,if_neg c11]
 by_cases c5:o.op=5
 ·rw[if_pos c5,if_pos c5,a0,a1,b0,b1]
  refine⟨rfl,?_⟩
  show H9 (D2 _)=H9 (D2 _)
  rw[B2F (hp (.inr (.inl c5)))]
 rw[if_neg c5,if_neg c5]
 by_cases c6:o.op=6
 ·rw[if_pos c6,if_pos c6,a0,a1,b0,b1]
  refine⟨rfl,?_⟩
  show H9 (D2 _)=H9 (D2 _)
  rw[B2F (hp (.inr (.inr c6)))]
 rw[if_neg c6,if_neg c6]
 by_cases c7:o.op=7
 ·rw[if_pos c7,if_pos c7,a0,a1,b1];exact⟨rfl,rfl⟩
 rw[if_neg c7,if_neg c7]
 by_cases c8:o.op=8
 ·rw[if_pos c8,if_pos c8,a0,a1,b1];exact⟨rfl,rfl⟩
 rw[if_neg c8,if_neg c8,a0,a1,b1];exact⟨rfl,rfl⟩
theorem E29{rs:List Int}{o o':Po}(h:e8 o o')(a b:Int):V2 rs o' a b=V2 rs o a b:=by
 unfold V2
 rw[h.op,h.n,h.rows,h.keys]
theorem C59{rs:List Int}{o o':Po}(h:e8 o o'){ni ni':Bool}{ins:List Pl}{Φ:Pl->Pl}(hc:∀x∈ins,H8 rs (Φ x)=H8 rs x):H8 rs (.mk o' ni' (ins.map Φ))=H8 rs (.mk o ni ins):=by
 rw[H8,H8,A28,A28,A28,A28,E29 h]
 have:∀i:Nat,(((ins.map Φ)[i]?).map (H8 rs)).getD 0=((ins[i]?).map (H8 rs)).getD 0:=λi=>by
  rw[I7]
  cases hx:ins[i]? with
  |none=>rfl
  |some x=>exact hc x (C3 hx)
 rw[this,this]
theorem C3f:∀(l:List Int)(a B:Int),a<=B->(∀x∈l,x<=B)->l.foldl max a<=B
 |[],_,_,h,_=>h
 |y::l,a,B,h,h2=>C3f l (max a y) B (by have:=h2 y (by simp);omega) λx hx=>h2 x (by simp[hx])
theorem B2L{rs:List Int}{o:Po}{ni:Bool}{ins:List Pl}{B:Int}(h1:H8 rs (.mk o ni ins)<=B)(h2:∀p∈ins,K7 rs p<=B):K7 rs (.mk o ni ins)<=B:=by
 rw[K7,A9C]
 exact C3f _ _ _ h1 λx hx=>by obtain⟨p,hp,rfl⟩:=D9.1 hx;exact h2 p hp
theorem D9T{rs:List Int}{o o':Po}(h:e8 o o'){ni ni':Bool}{ins:List Pl}{Φ:Pl->Pl}(hc:∀x∈ins,H8 rs (Φ x)=H8 rs x/\K7 rs (Φ x)<=K7 rs x):K7 rs (.mk o' ni' (ins.map Φ))<=K7 rs (.mk o ni ins):=by
 obtain⟨h1,h2⟩:=u4 (A0i (K7 rs (.mk o ni ins)))
 refine B2L (by rw[C59 h (ni:=ni) λx hx=>(hc x hx).1];exact h1) λp hp=>?_
 obtain⟨x,hx,rfl⟩:=D9.1 hp
 exact s7 (hc x hx).2 (h2 x hx)
theorem E1I{o o':Po}(h:e8 o o'){ni ni':Bool}{ins:List Pl}{Φ:Pl->Pl}(hc:∀x∈ins,D8 (Φ x)=D8 x):D8 (.mk o' ni' (ins.map Φ))=D8 (.mk o ni ins):=by
 rw[A23,A23,h.op,h.n,List.flatMap_def,List.flatMap_def,W3]
 congr 2
 exact P3 hc
theorem B2c{Φ:Pl->Pl}:∀{l:List Pl},(∀x∈l,H2 (Φ x)<=H2 x)->S3 (l.map Φ)<=S3 l
 |[],_=>D4 _
 |a::l,h=>by
  have h1:=h a (by simp)
  have h2:=B2c λx hx=>h x (I8 a hx)
  rw[G5,S3,S3]
  omega
theorem Pl.bk_eq(o:Po)(ni:Bool)(ins:List Pl):(Pl.mk o ni ins).bk=D5 (A5 o.ki)+D5 (B6 o.rows)+o.pred.bk+D5 (xL o.xs)+D5 (A5 o.keys)+D5 (H4 o.aggs)+D5 (pL ins)+8:=by
 obtain⟨op,n,nk,ki,nr,rows,⟨xo,xn,xv,xm,xl,xa⟩,nx,xs,ny,keys,na,aggs⟩:=o
 rw[Pl.bk,Pl.ds_eq _ _ _ _ _ _ _ _ _ rfl,Ex.bk,Ex.ds_mk]
 simp only[N9,Po.dk,Po.dr,Po.dx,Po.dy,Po.da,U3,J6,T6,C1y]
 omega
theorem B35{Φ:Pl->Pl}:∀{l:List Pl},(∀x∈l,(Φ x).bk<=x.bk)->D5 (pL (l.map Φ))<=D5 (pL l)
 |[],_=>D4 _
 |a::l,h=>by
  have h1:=h a (by simp)
  have h2:=B35 λx hx=>h x (I8 a hx)
  unfold Pl.bk at h1
  simp only[pL,G5,D5] at h2 ⊢
  omega
theorem C1v(o:Po)(ni:Bool)(ins:List Pl){Φ:Pl->Pl}(h:∀x∈ins,(Φ x).bk<=x.bk):(Pl.mk (fdO o) true (ins.map Φ)).bk<=(Pl.mk o ni ins).bk:=by
 rw[Pl.bk_eq,Pl.bk_eq]
 have h1:=B35 h
 have h2:=A8Z (l:=o.xs) λx _=>j6 0 x
 have h3:(fdX o).bk<=o.pred.bk:=by
  unfold fdX
  split
  ·exact J2 (C4Y _) (j6 0 _)
  ·exact j6 0 _
 show D5 (A5 o.ki)+D5 (B6 o.rows)+(fdX o).bk+D5 (xL (o.xs.map (A9 0)))+D5 (A5 o.keys)+D5 (H4 o.aggs)+D5 (pL (ins.map Φ))+8<=_
 omega
end Go.Proofs
end
section
namespace Go.Proofs
open Go.Bi
structure PlE(I:List Bg)(p q:Pl):Prop where
 e:(C4 (B7 I) q).2=0
 ks:(C4 (B7 I) q).1.ks=(C4 (B7 I) p).1.ks
 ki:(F7 I q).ki=(F7 I p).ki
 rows:(F7 I q).rows=(F7 I p).rows
 sz:H8 (F6 I) q=H8 (F6 I) p
 lg:K7 (F6 I) q<=K7 (F6 I) p
 sc:D8 q=D8 p
structure PlD(I:List Bg)(p q:Pl):Prop extends PlE I p q where
 dp:H2 q<=H2 p
 bk:q.bk<=p.bk
theorem PlE.node{I:List Bg}(hI:InG I){o o':Po}(h:e8 o o'){ni ni':Bool}{ins:List Pl}{Φ:Pl->Pl}(hb:(Pl.mk o ni ins).bk<=1073741824)(h0:(C4 (B7 I) (.mk o ni ins)).2=0)(hl:K7 (F6 I) (.mk o ni ins)<=2000)(hc:∀x∈ins,PlE I x (Φ x)) :
  PlE I (.mk o ni ins) (.mk o' ni' (ins.map Φ)):=by
 have hB:=Pl.bd hb
 obtain⟨k1,k2,k3,k4,k5,k6⟩:=n5 h0
 obtain⟨m1,m2⟩:=u4 hl
 have hn:=C3W (K:=B7 I) h (ni':=ni') h0 λx hx=>⟨(hc x hx).e,(hc x hx).ks⟩
 have hk:∀i,((ins.map (F7 I)).getD i K9).ki=((ins.map λp=>(C4 (B7 I) p).1).getD i J4).ks:=λi=>by
  rw[A42,A42]
  cases hx:ins[i]? with
  |none=>rfl
  |some x=>
   have hm:=C3 hx
   exact(A5y hI x (hB.sub x hm) (k3 x hm) (m2 x hm)).ki
 have hkl:∀i,((ins.map λp=>(C4 (B7 I) p).1).getD i J4).ks.length<=48:=λi=>by
  rw[A42]
  cases hx:ins[i]? with
  |none=>exact K1 _
  |some x=>exact m9 _ x
 have hev:=D8E (I:=I) h (b:=ins.map (F7 I)) (b':=(ins.map Φ).map (F7 I)) (λi=>by
  rw[A42,A42,I7]
  cases hx:ins[i]? with
  |none=>exact⟨rfl,rfl⟩
  |some x=>exact⟨(hc x (C3 hx)).ki,(hc x (C3 hx)).rows⟩) (λho=>by
  have hq:∃ks:List Int,ks.length<=1073741824/\N4 ks o.pred=0:=by
   have l0:=hkl 0
   have l1:=hkl 1
   unfold I1 at k4
   rcases ho with ho|ho|ho
   ·rw[if_neg (by omega),if_neg (by omega),if_neg (by omega),if_neg (by omega),if_neg (by omega),if_pos ho] at k4
    exact⟨_,by omega,k4⟩
   ·rw[if_neg (by omega),if_neg (by omega),if_neg (by omega),if_neg (by omega),if_neg (by omega),if_neg (by omega),if_pos (.inl ho)] at k4
    exact⟨_,by rw[H3];omega,k4⟩
   ·rw[if_neg (by omega),if_neg (by omega),if_neg (by omega),if_neg (by omega),if_neg (by omega),if_neg (by omega),if_pos (.inr ho)] at k4
    exact⟨_,by rw[H3];omega,k4⟩
  obtain⟨ks,q1,q2⟩:=hq
  funext r
  unfold K6
  rw[(h.pred ho ks q1 q2).2 r]) (λho=>by
  have l0:=hkl 0
  unfold I1 at k4
  rw[if_neg (by omega),if_neg (by omega),if_pos ho] at k4
  rw[hk 0]
  have:=h.xs _ (by omega) k4
  exact⟨this.1,funext this.2⟩)
 refine⟨hn.1,hn.2,?_,?_,C59 h λx hx=>(hc x hx).sz,D9T h λx hx=>⟨(hc x hx).sz,(hc x hx).lg⟩,E1I h λx hx=>(hc x hx).sc⟩
 ·rw[A2t,A2t];exact hev.1
 ·rw[A2t,A2t];exact hev.2
theorem PlD.node{I:List Bg}(hI:InG I){o o':Po}(h:e8 o o'){ni ni':Bool}{ins:List Pl}{Φ:Pl->Pl}(hb:(Pl.mk o ni ins).bk<=1073741824)(h0:(C4 (B7 I) (.mk o ni ins)).2=0)(hl:K7 (F6 I) (.mk o ni ins)<=2000)(hc:∀x∈ins,PlD I x (Φ x))(hbk:(Pl.mk o' ni' (ins.map Φ)).bk<=(Pl.mk o ni ins).bk) :
  PlD I (.mk o ni ins) (.mk o' ni' (ins.map Φ)):=
 ⟨PlE.node hI h hb h0 hl λx hx=>(hc x hx).toPlE,by
  have:=B2c (l:=ins) (Φ:=Φ) λx hx=>(hc x hx).dp
  rw[H2,H2];omega,hbk⟩
theorem C2R{I:List Bg}(hI:InG I):∀p:Pl,p.bk<=1073741824->(C4 (B7 I) p).2=0->K7 (F6 I) p<=2000->PlD I p (M7 p)/\flB (M7 p)=true:=by
 refine Pl.ind λo ni ins ih hb h0 hl=>?_
 have hB:=Pl.bd hb
 have hok:=n5 h0
 obtain⟨k1,k2,k3,k4,k5,k6⟩:=hok
 obtain⟨m1,m2⟩:=u4 hl
 have ih':∀x∈ins,PlD I x (M7 x)/\flB (M7 x)=true:=λx hx=>ih x hx (hB.sub x hx) (k3 x hx) (m2 x hx)
 clear ih
 have hnode:=PlD.node hI (e8.fd o) (ni':=true) hb h0 hl (λx hx=>(ih' x hx).1) (C1v o ni ins λx hx=>(ih' x hx).1.bk)
 have hall:(ins.map M7).all flB=true:=by
  rw[K8]
  intro y hy
  obtain⟨x,hx,rfl⟩:=D9.1 hy
  exact(ih' x hx).2
 rw[B2q]
 by_cases h1:ins.length=1
 rotate_left
 ·rw[B2o _ _ (by rw[D3];exact h1)]
  refine⟨hnode,?_⟩
  rw[C31,hall]
  have ho:o.op≠3:=λh=>by rw[h] at k2;have:J8 3=1:=rfl;omega
  unfold flO
  rw[decide_eq_false (show ¬(fdO o).op=3 from ho),D3,decide_eq_true h1]
  simp
 ·obtain⟨x,hx⟩:∃x,ins=[x]:=by
   match ins,h1 with
   |[x],_=>exact⟨x,rfl⟩
  have hxm:x∈ins:=by rw[hx];simp
  obtain⟨hx1,hx2⟩:=ih' x hxm
  rw[show ins.map M7=[M7 x] by rw[hx];rfl] at hnode hall ⊢
  rw[B2p]
  have hks:(I1 (B7 I) o (ins.map λp=>(C4 (B7 I) p).1))=I1 (B7 I) o [(C4 (B7 I) x).1]:=by rw[hx];rfl
  have hev:F7 I (.mk o ni ins)=Z1 I o [F7 I x]:=by rw[A2t,hx];rfl
  have hsz:H8 (F6 I) (.mk o ni ins)=V2 (F6 I) o (H8 (F6 I) x) 0:=by rw[hx];rfl
  have hsc:D8 (.mk o ni ins)=(if o.op=1 then [o.n] else [])++D8 x:=by rw[A23,hx];simp
  have hdp:H2 (.mk o ni ins)=H2 x+1:=by rw[H2,hx];simp[S3]
  have hbk:x.bk<=(Pl.mk o ni ins).bk:=Nat.le_of_lt (Pl.bk_arg hxm)
  rw[hks] at k4 k5
  by_cases hc:(o.op=3/\T3 (fdX o) A2O=true)\/(o.op=10/\(M7 x).op=10)
  rotate_left
  ·rw[if_neg hc]
   refine⟨hnode,?_⟩
   rw[C31,hall]
   unfold flO
   have e1:(decide ((fdO o).op=3)&&T3 (fdO o).pred A2O)=false:=by
    cases hd:decide ((fdO o).op=3) with
    |false=>rfl
    |true=>
     cases hs:T3 (fdO o).pred A2O with
     |false=>rfl
     |true=>exact absurd (.inl ⟨of_decide_eq_true hd,hs⟩) hc
   have e2:(decide ((fdO o).op≠10)||decide ([M7 x].length≠1)||decide (([M7 x][0]?).map Pl.op≠some 10))=true:=by
    by_cases h10:o.op=10
    ·have:(M7 x).op≠10:=λh=>hc (.inr ⟨h10,h⟩)
     have e3:decide (([M7 x][0]?).map Pl.op≠some 10)=true:=decide_eq_true (by
      intro h
      exact this (Option.some.inj h))
     rw[e3,Bool.or_true]
    ·rw[decide_eq_true (show(fdO o).op≠10 from h10)];rfl
   rw[e1,e2];rfl
  ·rw[if_pos hc]
   refine⟨?_,hx2⟩
   have hrs:∃L,(F7 I (M7 x)).rows=H9 L/\Y8 L/\((M7 x).op=10->Sst L):=C2F I (M7 x)
   obtain⟨L,r1,r2,r3⟩:=hrs
   have r4:A8 (F7 I x).rows=L:=by rw[<- hx1.rows,r1,A2M]
   have hlg:K7 (F6 I) (M7 x)<=K7 (F6 I) (.mk o ni ins):=s7 hx1.lg ((u4 (A0i (K7 (F6 I) (.mk o ni ins)))).2 x hxm)
   have hlen:=m9 (B7 I) x
   rcases hc with ⟨ho,hs⟩|⟨ho,hs⟩
   ·have e1:I1 (B7 I) o [(C4 (B7 I) x).1]=((C4 (B7 I) x).1,N4 (C4 (B7 I) x).1.ks o.pred):=by
     unfold I1
     rw[if_neg (by omega),if_neg (by omega),if_neg (by omega),if_neg (by omega),if_neg (by omega),if_pos ho];rfl
    rw[e1] at k4 k5
    have e2:=(C4p (by omega) k4).2
    have e3:fdX o=J1 (A9 0 o.pred):=by unfold fdX;rw[if_pos (.inl ho)]
    rw[e3] at hs
    have e4:∀r,K6 o.pred r=true:=λr=>by
     unfold K6
     rw[<- e2 r,E20 hs r];rfl
    have e5:Z1 I o [F7 I x]=⟨(F7 I x).nk,(F7 I x).ki,false,H9 (D2 ((A8 (F7 I x).rows).filter (K6 o.pred)))⟩:=by
     unfold Z1
     rw[if_neg (by omega),if_neg (by omega),if_pos ho];rfl
    have e6:(A8 (F7 I x).rows).filter (K6 o.pred)=A8 (F7 I x).rows:=A54.2 λr _=>e4 r
    refine⟨⟨hx1.e,by rw[k5];exact hx1.ks,?_,?_,?_,hlg,?_⟩,by rw[hdp];have:=hx1.dp;omega,J2 hx1.bk hbk⟩
    ·rw[hev,e5];exact hx1.ki
    ·rw[hev,e5,e6,r4,A7z _ _ (D4 _) r2];exact r1
    ·rw[hsz,hx1.sz];unfold V2;rw[if_neg (by omega),if_neg (by omega),if_pos (.inl ho)]
    ·rw[hsc,if_neg (by omega)];exact hx1.sc
   ·have e1:I1 (B7 I) o [(C4 (B7 I) x).1]=((C4 (B7 I) x).1,0):=by
     unfold I1
     rw[if_neg (by omega),if_neg (by omega),if_neg (by omega),if_neg (by omega),if_pos ho];rfl
    rw[e1] at k5
    have e5:Z1 I o [F7 I x]=⟨(F7 I x).nk,(F7 I x).ki,false,H9 (P4 none (D2 (A8 (F7 I x).rows)))⟩:=by
     unfold Z1
     rw[if_neg (by omega),if_neg (by omega),if_neg (by omega),if_neg (by omega),if_pos ho];rfl
    refine⟨⟨hx1.e,by rw[k5];exact hx1.ks,?_,?_,?_,hlg,?_⟩,by rw[hdp];have:=hx1.dp;omega,J2 hx1.bk hbk⟩
    ·rw[hev,e5];exact hx1.ki
    ·rw[hev,e5,r4,A7z _ _ (D4 _) r2,D8d (r3 hs)];exact r1
    ·rw[hsz,hx1.sz];unfold V2;rw[if_neg (by omega),if_neg (by omega),if_pos (.inr (.inr (.inl ho)))]
    ·rw[hsc,if_neg (by omega)];exact hx1.sc
end Go.Proofs
end
section
namespace Go.Proofs
open Go.Bi
mutual
/-- A copy of a plan. -/
def V7:Pl->Pl
 |.mk o _ ins=>.mk (l9 o) true (A6T ins)
def A6T:List Pl->List Pl
 |[]=>[]
 |p::r=>V7 p::A6T r
end
theorem C1S:∀l,A6T l=l.map V7
 |[]=>by simp[A6T]
 |e::r=>by simp[A6T,C1S r]
theorem A98(o:Po)(ni:Bool)(ins:List Pl):V7 (.mk o ni ins)=.mk (l9 o) true (ins.map V7):=by rw[V7,C1S]
theorem B4n:∀p:Pl,p.bk<=1073741824->Pure Tryz.prog B1D [p.av] (V7 p).av:=by
 refine Pl.ind λo ni ins ih hb=>?_
 have hB:=Pl.bd hb
 have hM:=B4k B1D V7 o ni ins hb (λx hx=>ih x hx (hB.sub x hx))
 rw[A98]
 obtain⟨p,hp⟩:∃p,p=Pl.mk o ni ins:=⟨_,rfl⟩
 obtain⟨q,hq⟩:∃q,q=Pl.mk (l9 o) true (ins.map V7):=⟨_,rfl⟩
 rw[<- hp,<- hq] at hM ⊢
 clear hp hq ih hB hb
 obtain⟨op,n,dk,dr,xo,xn,xv,xm,xd,dx,dy,da,di,c1,c2⟩:=Pl.cut p
 obtain⟨op',n',dk',dr',xo',xn',xv',xm',xd',dx',dy',da',di',c3,c4⟩:=Pl.cut q
 rw[c2,c4] at hM
 rw[c2,c4]
 clear c1 c2 c3 c4
 have r1:xv.s=xv.s:=rfl
 have r2:xm=xm:=rfl
 have r3:xv'.s=xv'.s:=rfl
 have r4:xm'=xm':=rfl
 refine C9X.go A6 rfl ?_
 repeat' first|refine st ?_|((with_reducible apply A4);conv=>whnf)|refine⟨λ_=>?_,λ_=>?_⟩|fail
 all_goals rfl
theorem C1u(o:Po)(ni:Bool)(ins:List Pl){Φ:Pl->Pl}(h:∀x∈ins,(Φ x).bk<=x.bk):(Pl.mk (l9 o) true (ins.map Φ)).bk<=(Pl.mk o ni ins).bk:=by
 rw[Pl.bk_eq,Pl.bk_eq]
 have h1:=B35 h
 have h2:=A8Z (l:=o.xs) λx _=>j6 0 x
 have h3:=j6 0 o.pred
 show D5 (A5 o.ki)+D5 (B6 o.rows)+(A9 0 o.pred).bk+D5 (xL (o.xs.map (A9 0)))+D5 (A5 o.keys)+D5 (H4 o.aggs)+D5 (pL (ins.map Φ))+8<=_
 omega
theorem C1U{I:List Bg}(hI:InG I):∀p:Pl,p.bk<=1073741824->(C4 (B7 I) p).2=0->K7 (F6 I) p<=2000->PlD I p (V7 p):=by
 refine Pl.ind λo ni ins ih hb h0 hl=>?_
 have hB:=Pl.bd hb
 obtain⟨k1,k2,k3,k4,k5,k6⟩:=n5 h0
 obtain⟨m1,m2⟩:=u4 hl
 have ih':∀x∈ins,PlD I x (V7 x):=λx hx=>ih x hx (hB.sub x hx) (k3 x hx) (m2 x hx)
 rw[A98]
 exact PlD.node hI (e8.cp o) hb h0 hl ih' (C1u o ni ins λx hx=>(ih' x hx).bk)
end Go.Proofs
end
section
namespace Go.Proofs
open Go.Bi
abbrev H5(K:List Kw)(a:Pl):Int:=((B9 K a).1.ks.length:Nat)
def K4(K:List Kw):Pl->List Ex->Pl
 |.mk o ni [x],l=>if o.op=3 then K4 K x ((cj o.pred).map (A9 0)++l) else P5 (.mk o ni [x]) l
 |.mk o ni [a,b],l=>
  if o.op=5 then P5 (.mk o true [K4 K a (C6 (H5 K a) 0 (C9 l)),K4 K b ((C6 (H5 K a) 1 (C9 l)).map (A9 (-(H5 K a))))]) (C6 (H5 K a) 2 (C9 l))
  else if o.op=6 then P5 (.mk o true [K4 K a (C6 (H5 K a) 0 (C9 l)),K4 K b []]) (C6 (H5 K a) 1 (C9 l)++C6 (H5 K a) 2 (C9 l))
  else P5 (.mk o ni [a,b]) l
 |p,l=>P5 p l
termination_by p=>SizeOf.sizeOf p
decreasing_by
 all_goals
  simp only[Pl.mk.sizeOf_spec,List.cons.sizeOf_spec,List.nil.sizeOf_spec]
  omega
theorem A7B(K:List Kw){o:Po}{ni:Bool}{x:Pl}(l:List Ex)(h:o.op=3):K4 K (.mk o ni [x]) l=K4 K x ((cj o.pred).map (A9 0)++l):=by rw[K4,if_pos h]
theorem A7C(K:List Kw){o:Po}{ni:Bool}{a b:Pl}(l:List Ex)(h:o.op=5):K4 K (.mk o ni [a,b]) l=P5 (.mk o true [K4 K a (C6 (H5 K a) 0 (C9 l)),K4 K b ((C6 (H5 K a) 1 (C9 l)).map (A9 (-(H5 K a))))]) (C6 (H5 K a) 2 (C9 l)):=by rw[K4,if_pos h]
theorem A7D(K:List Kw){o:Po}{ni:Bool}{a b:Pl}(l:List Ex)(h:o.op=6):K4 K (.mk o ni [a,b]) l=P5 (.mk o true [K4 K a (C6 (H5 K a) 0 (C9 l)),K4 K b []]) (C6 (H5 K a) 1 (C9 l)++C6 (H5 K a) 2 (C9 l)):=by rw[K4,if_neg (by omega),if_pos h]
theorem A9O(K:List Kw){o:Po}{ni:Bool}{ins:List Pl}(l:List Ex)(h:o.op≠3/\o.op≠5/\o.op≠6):K4 K (.mk o ni ins) l=P5 (.mk o ni ins) l:=by
 match ins with
 |[]=>rw[K4]<;>simp
 |[x]=>rw[K4,if_neg h.1]
 |[a,b]=>rw[K4,if_neg h.2.1,if_neg h.2.2]
 |_::_::_::_=>rw[K4]<;>simp
mutual
/-- push. -/
def O7(K:List Kw):Pl->Pl
 |.mk o _ ins=>if o.op=3 then (match A5T K ins with|[x]=>K4 K x ((cj (A9 0 o.pred)).map (A9 0))|l=>.mk (l9 o) true l) else .mk (l9 o) true (A5T K ins)
def A5T(K:List Kw):List Pl->List Pl
 |[]=>[]
 |p::r=>O7 K p::A5T K r
end
theorem B3f(K:List Kw):∀l,A5T K l=l.map (O7 K)
 |[]=>by simp[A5T]
 |e::r=>by simp[A5T,B3f K r]
theorem A9T(K:List Kw){o:Po}{ni:Bool}{ins:List Pl}(h:o.op≠3):O7 K (.mk o ni ins)=.mk (l9 o) true (ins.map (O7 K)):=by rw[O7,if_neg h,B3f]
theorem A9S(K:List Kw){o:Po}{ni:Bool}{x:Pl}(h:o.op=3):O7 K (.mk o ni [x])=K4 K (O7 K x) ((cj (A9 0 o.pred)).map (A9 0)):=by rw[O7,if_pos h,B3f];rfl
end Go.Proofs
end
section
namespace Go.Proofs
open Go.Bi
theorem E2A(n:Int):M3 (M3 n+0)=M3 n:=by
 show IntKind.i64.wrap (IntKind.i64.wrap n+0)=IntKind.i64.wrap n
 rw[IntKind.wrap_i64,IntKind.wrap_i64]
 omega
theorem E1T(k:Int):∀e:Ex,A9 0 (A9 k e)=A9 k e:=by
 refine Ex.ind λop n v nm nl args ih=>?_
 rw[A25,A25,W3,show args.map (A9 0 ∘ A9 k)=args.map (A9 k) from P3 λa ha=>ih a ha]
 congr 1
 split
 ·exact E2A _
 ·rfl
theorem B26(k:Int):∀e:Ex,cj (A9 k e)=(cj e).map (A9 k):=by
 refine Ex.ind λop n v nm nl args ih=>?_
 rw[A25,A2o,A2o,D3]
 by_cases h2:op=2
 ·have e1:∀m,A2x op m v nm args.length=false:=λm=>decide_eq_false (by omega)
  rw[e1,e1,if_neg Bool.false_ne_true,if_neg Bool.false_ne_true,G5,A25];rfl
 ·rw[if_neg h2]
  split
  ·rw[List.flatMap_map,List.map_flatMap]
   simp only[List.flatMap_def]
   rw[P3 λa ha=>ih a ha]
  ·rw[G5,A25,if_neg h2];rfl
structure P7(c:Ex):Prop where
 flat:A3b c
 cp:A9 0 c=c
theorem D8U{k:Int}{c:Ex}(h:A3b c):A3b (A9 k c):=by
 unfold A3b at h ⊢
 rw[B26,h];rfl
theorem C26(k:Int){c:Ex}(h:A3b c):P7 (A9 k c):=⟨D8U h,E1T k c⟩
theorem A4C(e:Ex):∀c∈(cj e).map (A9 0),P7 c:=λc hc=>by
 obtain⟨x,hx,rfl⟩:=D9.1 hc
 exact C26 0 (D7B e x hx)
theorem A4N{l:List Ex}(h:∀c∈l,P7 c):l.map (A9 0)=l:=by
 conv=>rhs;rw[<- A05 l]
 exact P3 λc hc=>(h c hc).cp
abbrev C5k:Ex:=.mk 1 0 (T4 true) [] true []
theorem D7M:P7 C5k:=⟨rfl,rfl⟩
theorem A97:C9 []=[C5k]:=rfl
theorem A5o{l:List Ex}(h:∀c∈l,P7 c)(hn:l≠[]):C9 l=l:=by
 unfold C9
 rw[A4N h,A6O (λc hc=>(h c hc).flat) hn,A4N h]
theorem D7C{l:List Ex}(h:∀c∈l,P7 c):∀c∈C9 l,P7 c:=by
 by_cases hn:l=[]
 ·subst hn
  rw[A97]
  intro c hc
  rw[O4] at hc
  subst hc;exact D7M
 ·rw[A5o h hn];exact h
theorem C1P{l:List Ex}(h:∀c∈l,P7 c)(r:B4):(C9 l).all (λc=>K6 c r)=l.all λc=>K6 c r:=by
 by_cases hn:l=[]
 ·subst hn
  rw[A97];rfl
 ·rw[A5o h hn]
theorem A2G{n:Int}{k:Nat}{l:List Ex}{c:Ex}:c∈C6 n k l↔c∈l/\T7 n c=k:=by
 unfold C6
 rw[A06,decide_eq_true_eq]
end Go.Proofs
end
section
namespace Go.Proofs
open Go.Bi
theorem B4J:∀p:Pl,p.bk<=1073741824->Pure Tryz.prog C00 [p.av] (.d (.sl (A5 (D8 p)))):=by
 refine Pl.ind λo ni ins ih hb=>?_
 have hB:=Pl.bd hb
 have hbk:∀i:Nat,((if o.op=1 then [o.n] else [])++(ins.take i).flatMap D8).length<=1073741824:=λi=>by
  have h1:=B3s (.mk o ni ins)
  rw[A23] at h1
  have h2:((ins.take i).flatMap D8).length<=(ins.flatMap D8).length:=by
   conv=>rhs;rw[<- A6n i ins,List.flatMap_append,H3]
   omega
  rw[H3] at h1 ⊢
  omega
 have hq:=A23 o ni ins
 obtain⟨q,hqq⟩:∃q,q=D8 (.mk o ni ins):=⟨_,rfl⟩
 rw[<- hqq] at hq ⊢
 clear hqq
 obtain⟨xo,xn,xv,xm,xd,hav,_⟩:=Pl.cuto o ni ins
 rw[hav]
 have hdi:B0 (ng ni (pL ins)) (pL ins):=C7
 obtain⟨dk,e1⟩:∃d,d=o.dk:=⟨_,rfl⟩
 obtain⟨dr,e2⟩:∃d,d=o.dr:=⟨_,rfl⟩
 obtain⟨dx,e3⟩:∃d,d=o.dx:=⟨_,rfl⟩
 obtain⟨dy,e4⟩:∃d,d=o.dy:=⟨_,rfl⟩
 obtain⟨da,e5⟩:∃d,d=o.da:=⟨_,rfl⟩
 obtain⟨di,e6⟩:∃d,d=ng ni (pL ins):=⟨_,rfl⟩
 rw[<- e1,<- e2,<- e3,<- e4,<- e5,<- e6]
 rw[<- e6] at hdi
 clear e1 e2 e3 e4 e5 e6 hav
 have l1:=n7 ins
 have m1:=u7 ins
 have g1:=λi p=>@A0e ins i p
 obtain⟨es,hes⟩:∃z,z=pL ins:=⟨_,rfl⟩
 rw[<- hes] at hdi l1 m1 g1
 clear hes
 have hil:=hB.il
 have hsub:=hB.sub
 clear hB hb
 obtain⟨op,hop⟩:∃x,x=o.op:=⟨_,rfl⟩
 obtain⟨n,hn⟩:∃x,x=o.n:=⟨_,rfl⟩
 rw[<- hop,<- hn] at hq ⊢
 have hbk:∀i:Nat,((if op=1 then [n] else [])++(ins.take i).flatMap D8).length<=1073741824:=by rw[hop,hn];exact hbk
 clear hop hn
 obtain⟨F0,hF⟩:∃z,z=if op=1 then [n] else []:=⟨_,rfl⟩
 rw[<- hF] at hq hbk
 by_cases h1:op=1
 ·subst h1
  rw[if_pos rfl] at hF
  subst hF
  refine B59.go A6 rfl ?_
  repeat' first|refine st ?_|((with_reducible apply A4);conv=>whnf)|refine⟨λ_=>?_,λ_=>?_⟩|fail
  refine J5 A6 B8H B8B (λ(i:Nat)=>[.arr 1 (A5 ([n]++(ins.take i).flatMap D8)).length,.d (eI i)]) (λi=>[.cells [.d (eI 1),.d (eI n),.d dk,.d dr,.d (eI xo),.d (eI xn),.d (eI xv.k),.d (eI xv.n),.d (.str xv.s),.d (.str xm),.d xd,.d dx,.d dy,.d da,.d di],.arr (A5 ([n]++(ins.take i).flatMap D8)) 1 0 false,.arr [[eI n]] 1 0 false]) (λi=>i<=ins.length) (λi=>ins.length-i) 0 rfl rfl rfl rfl (λ_ _=>⟨rfl,rfl⟩) rfl (by omega) ?_
  repeat' first|refine st ?_|((with_reducible apply A4);conv=>whnf)|refine⟨λ_=>?_,λ_=>?_⟩|fail
  intro i i1
  have hb1:=hbk i
  have hb2:=hbk (i+1)
  have hwl:=G4 ([n]++(ins.take i).flatMap D8)
  have hwm:=I0 ([n]++(ins.take i).flatMap D8)
  cases hx:ins[i]? with
  |some p=>
   have hlt:=(B3.1 hx).1
   have hilt:(i:Int)<es.length:=by omega
   have hg:=g1 i p hx
   have hI:=ih p (C3 hx) (hsub p (C3 hx))
   have ht0:(ins.take (i+1)).flatMap D8=(ins.take i).flatMap D8++D8 p:=by rw[L5,hx];simp
   have ht:A5 ([n]++(ins.take (i+1)).flatMap D8)=A5 ([n]++(ins.take i).flatMap D8)++A5 (D8 p):=by rw[ht0];simp[A5]
   rw[ht0] at hb2
   have hsl:=G4 (D8 p)
   have hsm:=I0 (D8 p)
   have hsd:B0 (.sl (A5 (D8 p))) (A5 (D8 p)):=.inr rfl
   obtain⟨A,hA⟩:∃z,z=A5 ([n]++(ins.take i).flatMap D8):=⟨_,rfl⟩
   rw[<- hA] at hwl hwm ht ⊢
   have hb3:A.length+(A5 (D8 p)).length<=1073741824:=by
    rw[hsl,hwl]
    simp only[H3] at hb2 ⊢
    omega
   obtain⟨op',n',dk',dr',xo',xn',xv',xm',xd',dx',dy',da',di',c1,c2⟩:=Pl.cut p
   have hg:es[((i:Nat):Int).toNat]?=some (N9 op' n' dk' dr' xo' xn' xv' xm' xd' dx' dy' da' di'):=by rw[<- c1];exact hg
   rw[c2] at hI
   obtain⟨B,hB⟩:∃z,z=A5 (D8 p):=⟨_,rfl⟩
   rw[<- hB] at hI ht hsm hsd hb3
   obtain⟨sd,hsdd⟩:∃z,z=D.sl B:=⟨_,rfl⟩
   rw[<- hsdd] at hI hsd
   have hbd:(A.length+B.length)*8<=140737488355328/\A.length+B.length<=9223372036854775807:=by omega
   clear hsl hB hA c1 c2 hx g1 ih hbk hb1 hb2 hwl
   subst hsdd
   repeat' first|refine st ?_|((with_reducible apply A4);conv=>whnf)|refine⟨λ_=>?_,λ_=>?_⟩|fail
   exact⟨i+1,by rw[ht];simp,rfl,by rw[ht];simp,by omega,by omega⟩
  |none=>
   have hge:=F2.1 hx
   have hilt:(es.length:Int)<=i:=by omega
   rw[H0 hge] at hwl hwm hb1 ⊢
   rw[hq]
   obtain⟨A,hA⟩:∃z,z=A5 ([n]++ins.flatMap D8):=⟨_,rfl⟩
   rw[<- hA] at hwl hwm ⊢
   clear hx g1 ih hA
   repeat' first|refine st ?_|((with_reducible apply A4);conv=>whnf)|refine⟨λ_=>?_,λ_=>?_⟩|fail
   all_goals rfl
 ·rw[if_neg h1] at hF
  subst hF
  have hq:q=ins.flatMap D8:=hq
  have hbk:∀i:Nat,((ins.take i).flatMap D8).length<=1073741824:=hbk
  refine B59.go A6 rfl ?_
  repeat' first|refine st ?_|((with_reducible apply A4);conv=>whnf)|refine⟨λ_=>?_,λ_=>?_⟩|fail
  refine J5 A6 B8H B8B (λ(i:Nat)=>[.arr 1 (A5 ((ins.take i).flatMap D8)).length,.d (eI i)]) (λi=>[.cells [.d (eI op),.d (eI n),.d dk,.d dr,.d (eI xo),.d (eI xn),.d (eI xv.k),.d (eI xv.n),.d (.str xv.s),.d (.str xm),.d xd,.d dx,.d dy,.d da,.d di],.arr (A5 ((ins.take i).flatMap D8)) 1 0 false]) (λi=>i<=ins.length) (λi=>ins.length-i) 0 rfl rfl rfl rfl (λ_ _=>⟨rfl,rfl⟩) rfl (by omega) ?_
  repeat' first|refine st ?_|((with_reducible apply A4);conv=>whnf)|refine⟨λ_=>?_,λ_=>?_⟩|fail
  intro i i1
  have hb1:=hbk i
  have hb2:=hbk (i+1)
  have hwl:=G4 ((ins.take i).flatMap D8)
  have hwm:=I0 ((ins.take i).flatMap D8)
  cases hx:ins[i]? with
  |some p=>
   have hlt:=(B3.1 hx).1
   have hilt:(i:Int)<es.length:=by omega
   have hg:=g1 i p hx
   have hI:=ih p (C3 hx) (hsub p (C3 hx))
   have ht0:(ins.take (i+1)).flatMap D8=(ins.take i).flatMap D8++D8 p:=by rw[L5,hx];simp
   have ht:A5 ((ins.take (i+1)).flatMap D8)=A5 ((ins.take i).flatMap D8)++A5 (D8 p):=by rw[ht0];simp[A5]
   rw[ht0] at hb2
   have hsl:=G4 (D8 p)
   have hsm:=I0 (D8 p)
   have hsd:B0 (.sl (A5 (D8 p))) (A5 (D8 p)):=.inr rfl
   obtain⟨A,hA⟩:∃z,z=A5 ((ins.take i).flatMap D8):=⟨_,rfl⟩
   rw[<- hA] at hwl hwm ht ⊢
   have hb3:A.length+(A5 (D8 p)).length<=1073741824:=by
    rw[hsl,hwl]
    simp only[H3] at hb2 ⊢
    omega
   obtain⟨op',n',dk',dr',xo',xn',xv',xm',xd',dx',dy',da',di',c1,c2⟩:=Pl.cut p
   have hg:es[((i:Nat):Int).toNat]?=some (N9 op' n' dk' dr' xo' xn' xv' xm' xd' dx' dy' da' di'):=by rw[<- c1];exact hg
   rw[c2] at hI
   obtain⟨B,hB⟩:∃z,z=A5 (D8 p):=⟨_,rfl⟩
   rw[<- hB] at hI ht hsm hsd hb3
   obtain⟨sd,hsdd⟩:∃z,z=D.sl B:=⟨_,rfl⟩
   rw[<- hsdd] at hI hsd
   have hbd:(A.length+B.length)*8<=140737488355328/\A.length+B.length<=9223372036854775807:=by omega
   clear hsl hB hA c1 c2 hx g1 ih hbk hb1 hb2 hwl
   subst hsdd
   repeat' first|refine st ?_|((with_reducible apply A4);conv=>whnf)|refine⟨λ_=>?_,λ_=>?_⟩|fail
   exact⟨i+1,by rw[ht];simp,rfl,by rw[ht];simp,by omega,by omega⟩
  |none=>
   have hge:=F2.1 hx
   have hilt:(es.length:Int)<=i:=by omega
   rw[H0 hge] at hwl hwm hb1 ⊢
   rw[hq]
   obtain⟨A,hA⟩:∃z,z=A5 (ins.flatMap D8):=⟨_,rfl⟩
   rw[<- hA] at hwl hwm ⊢
   clear hx g1 ih hA
   repeat' first|refine st ?_|((with_reducible apply A4);conv=>whnf)|refine⟨λ_=>?_,λ_=>?_⟩|fail
   all_goals rfl
theorem C6P(l:List B4)(hl:l.length<=4294967296)(hr:∀r∈l,r.length<=4294967296):Pure Tryz.prog B1j [.d (.sl (rD l)),.d (.sl (rD l))] (.d (.bool true)):=by
 have l1:=v6 l
 have m1:=v7 l
 have g1:=λi v=>@A3i l i v
 have hE:∀r∈l,Pure Tryz.prog B1i [.d (.sl (B2 r)),.d (.sl (B2 r))] (.d (.bool true)):=λr h=>by
  have:=A6g r r (hr r h) (hr r h) _ _ (.inr rfl) (.inr rfl)
  rw[show K0 r r=0 from(A0N.eq r r).2 rfl] at this
  exact this
 obtain⟨es,hes⟩:∃z,z=rD l:=⟨_,rfl⟩
 rw[<- hes] at l1 m1 g1 ⊢
 clear hes
 refine B50.go A6 rfl ?_
 repeat' first|refine st ?_|((with_reducible apply A4);conv=>whnf)|refine⟨λ_=>?_,λ_=>?_⟩|fail
 refine J5 A6 D2k D0Z (λ(i:Nat)=>[.d (eI i)]) (λi=>[]) (λi=>i<=l.length) (λi=>l.length-i) 0 rfl rfl rfl rfl (λ_ _=>⟨rfl,rfl⟩) rfl (by omega) ?_
 repeat' first|refine st ?_|((with_reducible apply A4);conv=>whnf)|refine⟨λ_=>?_,λ_=>?_⟩|fail
 intro i i1
 cases hx:l[i]? with
 |some r=>
  have hlt:=(B3.1 hx).1
  have hilt:(i:Int)<es.length:=by omega
  have hg:es[((i:Nat):Int).toNat]?=some [.sl (B2 r)]:=g1 i r hx
  have hI:=hE r (C3 hx)
  clear hx g1 hE
  repeat' first|refine st ?_|((with_reducible apply A4);conv=>whnf)|refine⟨λ_=>?_,λ_=>?_⟩|fail
  exact⟨i+1,rfl,rfl,rfl,by omega,by omega⟩
 |none=>
  have hge:=F2.1 hx
  have hilt:(es.length:Int)<=i:=by omega
  clear hx hE g1
  repeat' first|refine st ?_|((with_reducible apply A4);conv=>whnf)|refine⟨λ_=>?_,λ_=>?_⟩|fail
  all_goals rfl
theorem C6Q(l:List Rw)(hl:l.length<=4294967296)(hr:∀r∈l,r.vs.length<=4294967296)(d d':D)(hd:B0 d (B6 l))(hd':B0 d' (B6 l)):Pure Tryz.prog B9q [.d d,.d d'] (.d (.bool true)):=by
 have h1:=A0D l hl hr d hd
 have h2:=A0D l hl hr d' hd'
 have hvl:(A8 l).length=l.length:=by unfold A8;rw[D3]
 have h3:=C6P (D2 (A8 l)) (by rw[A1m _ _ (D4 _),hvl];exact hl) (λr h=>by
  obtain⟨x,hx,rfl⟩:=D9.1 (A20 _ _ (D4 _) r h)
  exact hr x hx)
 obtain⟨es,hes⟩:∃z,z=rD (D2 (A8 l)):=⟨_,rfl⟩
 rw[<- hes] at h1 h2 h3
 clear hes
 refine C8J.go A6 rfl ?_
 repeat' first|refine st ?_|((with_reducible apply A4);conv=>whnf)|refine⟨λ_=>?_,λ_=>?_⟩|fail
 all_goals rfl
end Go.Proofs
end
section
namespace Go.Proofs
open Go.Bi
def szA(rs:List Int)(ins:List Pl)(i:Nat):Int:=((ins[i]?).map (H8 rs)).getD 0
theorem B42(rs:List Int)(dr':D)(op n:Int)(dk dr:D)(xo xn:Int)(xv:Vl)(xm:List UInt8)(xd dx dy da di:D)(ins:List Pl)(hil:ins.length<=1073741824)(hdi:B0 di (pL ins))(i:Nat)(hi:i<=1)
  (ih:∀p∈ins,Pure Tryz.prog A6v [p.av,.d dr'] (.d (eI (H8 rs p)))) :
  C0 Tryz.prog C0m [.d (eI i),.ptr 0 0,.ptr 1 0] [.cells [.d (eI op),.d (eI n),.d dk,.d dr,.d (eI xo),.d (eI xn),.d (eI xv.k),.d (eI xv.n),.d (.str xv.s),.d (.str xm),.d xd,.d dx,.d dy,.d da,.d di],.cells [.d dr']]
   (λr os=>r=.d (eI (szA rs ins i))/\os=[.cells [.d (eI op),.d (eI n),.d dk,.d dr,.d (eI xo),.d (eI xn),.d (eI xv.k),.d (eI xv.n),.d (.str xv.s),.d (.str xm),.d xd,.d dx,.d dy,.d da,.d di],.cells [.d dr']]):=by
 have l1:=n7 ins
 have m1:=u7 ins
 have g1:=λi p=>@A0e ins i p
 obtain⟨es,hes⟩:∃z,z=pL ins:=⟨_,rfl⟩
 rw[<- hes] at hdi l1 m1 g1
 clear hes
 obtain⟨q,hq⟩:∃q,q=szA rs ins i:=⟨_,rfl⟩
 rw[<- hq]
 unfold szA at hq
 have r0:xv.k=xv.k:=rfl
 have r1:xv.s=xv.s:=rfl
 have r2:xm=xm:=rfl
 cases hx:ins[i]? with
 |none=>
  rw[hx] at hq
  have hge:=F2.1 hx
  have h3:(es.length:Int)<=i:=by omega
  have hq:q=0:=hq
  subst hq
  clear g1 ih hx
  refine B5g.goX A6 rfl ?_
  repeat' first|refine st ?_|((with_reducible apply A4);conv=>whnf)|refine⟨λ_=>?_,λ_=>?_⟩|fail
  all_goals exact⟨rfl,rfl⟩
 |some p=>
  rw[hx] at hq
  have hlt:=(B3.1 hx).1
  have h3:(i:Int)<es.length:=by omega
  have hq:q=H8 rs p:=hq
  have hP:=ih p (C3 hx)
  rw[<- hq] at hP
  have hg:=g1 i p hx
  obtain⟨op',n',dk',dr0,xo',xn',xv',xm',xd',dx',dy',da',di',c1,c2⟩:=Pl.cut p
  have hg:es[((i:Nat):Int).toNat]?=some (N9 op' n' dk' dr0 xo' xn' xv' xm' xd' dx' dy' da' di'):=by rw[<- c1];exact hg
  rw[c2] at hP
  clear g1 ih hx hq c1 c2
  refine B5g.goX A6 rfl ?_
  repeat' first|refine st ?_|((with_reducible apply A4);conv=>whnf)|refine⟨λ_=>?_,λ_=>?_⟩|fail
  all_goals exact⟨rfl,rfl⟩
theorem C6B(rs:List Int)(hrs:rs.length<=1073741824)(dr':D)(hdr:B0 dr' (A5 rs)):∀p:Pl,p.bk<=1073741824->Pure Tryz.prog A6v [p.av,.d dr'] (.d (eI (H8 rs p))):=by
 refine Pl.ind λo ni ins ih hb=>?_
 have hB:=Pl.bd hb
 obtain⟨xo,xn,xv,xm,xd,hav,_⟩:=Pl.cuto o ni ins
 rw[hav]
 have hdi:B0 (ng ni (pL ins)) (pL ins):=C7
 have hdy:B0 o.dy (A5 o.keys):=C7
 have hdw:B0 o.dr (B6 o.rows):=C7
 have kl:=G4 o.keys
 have wl:=W0 o.rows
 have hk1:=hB.keys
 have hw1:=hB.nr
 have hq:H8 rs (.mk o ni ins)=V2 rs o ((A01 rs ins).getD 0 0) ((A01 rs ins).getD 1 0):=rfl
 rw[A28,A28] at hq
 obtain⟨q,hqq⟩:∃q,q=H8 rs (.mk o ni ins):=⟨_,rfl⟩
 rw[<- hqq] at hq ⊢
 clear hqq
 have hil:=hB.il
 have hC0:=λdk dr dx dy da=>B42 rs dr' o.op o.n dk dr xo xn xv xm xd dx dy da (ng ni (pL ins)) ins hil hdi 0 (by omega) λp hp=>ih p hp (hB.sub p hp)
 have hC1:=λdk dr dx dy da=>B42 rs dr' o.op o.n dk dr xo xn xv xm xd dx dy da (ng ni (pL ins)) ins hil hdi 1 (by omega) λp hp=>ih p hp (hB.sub p hp)
 have key:∀i:Nat,0<=szA rs ins i/\szA rs ins i<=g8:=λi=>by
  unfold szA
  cases hx:ins[i]? with
  |none=>exact⟨A0i 0,show(0:Int)<=g8 by decide⟩
  |some p=>exact B3E rs p (hB.sub p (C3 hx))
 obtain⟨a1,a2⟩:=key 0
 obtain⟨b1,b2⟩:=key 1
 clear key ih
 have hq:q=V2 rs o (szA rs ins 0) (szA rs ins 1):=hq
 obtain⟨a,ha⟩:∃a,a=szA rs ins 0:=⟨_,rfl⟩
 obtain⟨b,hbb⟩:∃a,a=szA rs ins 1:=⟨_,rfl⟩
 rw[<- ha] at hq a1 a2 hC0
 rw[<- hbb] at hq b1 b2 hC1
 clear ha hbb
 obtain⟨op,n,nk,ki,nr,rows,pred,nx,xs,ny,keys,na,aggs⟩:=o
 dsimp only at hdy hdw kl wl hk1 hw1 hq
 obtain⟨dk,e1⟩:∃d,d=ng nk (A5 ki):=⟨_,rfl⟩
 obtain⟨dr,e2⟩:∃d,d=ng nr (B6 rows):=⟨_,rfl⟩
 obtain⟨dx,e3⟩:∃d,d=ng nx (xL xs):=⟨_,rfl⟩
 obtain⟨dy,e4⟩:∃d,d=ng ny (A5 keys):=⟨_,rfl⟩
 obtain⟨da,e5⟩:∃d,d=ng na (H4 aggs):=⟨_,rfl⟩
 obtain⟨di,e6⟩:∃d,d=ng ni (pL ins):=⟨_,rfl⟩
 show Bi.Pure Tryz.prog A6v [F3 op n (ng nk (A5 ki)) (ng nr (B6 rows)) xo xn xv xm xd (ng nx (xL xs)) (ng ny (A5 keys)) (ng na (H4 aggs)) (ng ni (pL ins)),.d dr'] (.d (eI q))
 rw[<- e6] at hC0 hC1
 have hC0:=hC0 dk dr dx dy da
 have hC1:=hC1 dk dr dx dy da
 dsimp only at hC0 hC1
 rw[<- e1,<- e2,<- e3,<- e4,<- e5,<- e6]
 have hdy:B0 dy (A5 keys):=by rw[e4];exact hdy
 have hdw:B0 dr (B6 rows):=by rw[e2];exact hdw
 clear e1 e2 e3 e4 e5 e6 hav hB hb hdi
 have r1:=G4 rs
 have rm:=I0 rs
 have rg:=λi k=>@Q1 rs i k
 obtain⟨rr,hrr⟩:∃z,z=A5 rs:=⟨_,rfl⟩
 rw[<- hrr] at hdr r1 rm rg
 obtain⟨ww,hww⟩:∃z,z=B6 rows:=⟨_,rfl⟩
 rw[<- hww] at hdw wl
 obtain⟨kk,hkk⟩:∃z,z=A5 keys:=⟨_,rfl⟩
 rw[<- hkk] at hdy kl
 have wm:∀e∈ww,e.length=1:=by rw[hww];exact X8 rows
 have km:∀e∈kk,e.length=1:=by rw[hkk];exact I0 keys
 clear hrr hww hkk
 have hT:=B4o a b a1 b1
 have hT2:=B4o a (max b 1) a1 (by omega)
 unfold g8 at a2 b2
 unfold V2 at hq
 dsimp only at hq
 have hcase:(op=1/\0<=n/\n<rr.length/\∃k:Int,rr[n.toNat]?=some [eI k]/\q=max 0 (min k 1099511627776))\/(op=1/\n<0/\q=0)\/(op=1/\0<=n/\(rr.length:Int)<=n/\q=0)\/(op=2/\q=min (ww.length:Int) 1099511627776)\/(op=3/\q=a)\/(op=4/\q=a)\/(op=10/\q=a)\/(op=8/\q=a)\/(op=5/\q=s4 a b)\/(op=6/\q=s4 a (max b 1))\/(op=7/\q=min (a+b) 1099511627776)\/(op=9/\q=min a b)\/(op=11/\(kk.length:Int)=0/\q=1)\/(op=11/\¬(kk.length:Int)=0/\q=a)\/
   ((op≠1/\op≠2/\op≠3/\op≠4/\op≠5/\op≠6/\op≠7/\op≠8/\op≠9/\op≠10/\op≠11)/\q=0):=by
  by_cases o1:op=1
  ·subst o1
   rw[if_pos rfl] at hq
   by_cases h1:0<=n/\n<rs.length
   ·rw[if_pos h1] at hq
    obtain⟨k,hk⟩:∃k,rs[n.toNat]?=some k:=⟨_,F1 (by omega)⟩
    rw[H6,hk] at hq
    have hq:q=min (max k 0) 1099511627776:=hq
    exact .inl ⟨rfl,h1.1,by omega,k,rg _ _ hk,by omega⟩
   ·rw[if_neg h1] at hq
    by_cases h2:n<0
    ·exact .inr (.inl ⟨rfl,h2,hq⟩)
    ·exact .inr (.inr (.inl ⟨rfl,by omega,by omega,hq⟩))
  by_cases o2:op=2
  ·subst o2
   have hq:q=(rows.length:Int):=by simpa using hq
   exact .inr (.inr (.inr (.inl ⟨rfl,by omega⟩)))
  by_cases o3:op=3
  ·subst o3;simp at hq;simp[hq]
  by_cases o4:op=4
  ·subst o4;simp at hq;simp[hq]
  by_cases o10:op=10
  ·subst o10;simp at hq;simp[hq]
  by_cases o8:op=8
  ·subst o8;simp at hq;simp[hq]
  by_cases o5:op=5
  ·subst o5;simp at hq;simp[hq]
  by_cases o6:op=6
  ·subst o6;simp at hq;simp[hq]
  by_cases o7:op=7
  ·subst o7;simp at hq;simp[hq]
  by_cases o9:op=9
  ·subst o9;simp at hq;simp[hq]
  by_cases o11:op=11
  ·subst o11
   simp at hq
   by_cases h0:keys=[]
   ·rw[if_pos h0] at hq
    have hk0:(kk.length:Int)=0:=by rw[kl,h0];rfl
    simp[hq,hk0]
   ·rw[if_neg h0] at hq
    have hk0:¬(kk.length:Int)=0:=by
     have:keys.length≠0:=λh=>h0 (A0H.1 h)
     omega
    have hk1:¬kk=[]:=λh=>hk0 (by rw[h];rfl)
    simp[hq,hk1]
  ·simp[o1,o2,o3,o4,o5,o6,o7,o8,o9,o10,o11] at hq
   simp[o1,o2,o3,o4,o5,o6,o7,o8,o9,o10,o11,hq]
 clear hq rg
 rcases hcase with ⟨rfl,z1,z2,k,z3,rfl⟩|⟨rfl,z1,rfl⟩|⟨rfl,z1,z2,rfl⟩|⟨rfl,rfl⟩|⟨rfl,rfl⟩|⟨rfl,rfl⟩|⟨rfl,rfl⟩|⟨rfl,rfl⟩|⟨rfl,rfl⟩|⟨rfl,rfl⟩|⟨rfl,rfl⟩|⟨rfl,rfl⟩|⟨rfl,z1,rfl⟩|⟨rfl,z1,rfl⟩|⟨⟨o1,o2,o3,o4,o5,o6,o7,o8,o9,o10,o11⟩,rfl⟩
 all_goals refine C9W.go A6 rfl ?_
 all_goals repeat' first|refine st ?_|((with_reducible apply A4);conv=>whnf)|((with_reducible first|apply O1|apply O0);(·first|exact hC0|exact hC1);(try rintro _ _ ⟨rfl,rfl⟩))|((with_reducible apply O2);(·first|exact hC0|exact hC1))|refine⟨λ_=>?_,λ_=>?_⟩|fail
 all_goals rfl
end Go.Proofs
end
