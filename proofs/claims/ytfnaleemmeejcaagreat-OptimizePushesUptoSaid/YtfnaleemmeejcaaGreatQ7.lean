/- Texts of this claim, joined. No condition. -/
import Derived.Test.YtfnaleemmeejcaaGreatQ6
import Derived.Shelf.Sort.Plain
import Derived.Ground.Names2Prog
import Derived.Shelf.Slices.CompactI
import Derived.Test.YtfnaleemmeejcaaGreatProg
set_option linter.unusedSimpArgs false
set_option linter.unusedVariables false
set_option maxRecDepth 10000
set_option maxHeartbeats 4000000
section
namespace Go.Proofs
open Go.Bi
theorem D9X(nk:Bool)(ki:List Int)(rows:List Rw):(vaF nk ki rows).2=vaE ki rows:=by
 unfold vaF vaE
 by_cases c1:4096<rows.length
 ·rw[if_pos c1,if_pos c1]
 ·rw[if_neg c1,if_neg c1]
  cases c2:ki.all Y9 with
  |false=>rfl
  |true=>
   rw[if_pos rfl,if_pos rfl]
   cases c3:rows.all (λr=>Q1 r.vs ki)<;>rfl
theorem D60(a b:Kw):(if a.ks.length=b.ks.length then (if a.ks=b.ks then (a,(0:Int)) else (K0,7)) else (K0,13)).2=eqE a.ks b.ks:=by
 unfold eqE
 by_cases c1:a.ks.length=b.ks.length
 ·rw[if_pos c1,if_pos c1]
  by_cases c2:a.ks=b.ks
  ·rw[if_pos c2,if_pos c2]
  ·rw[if_neg c2,if_neg c2]
 ·rw[if_neg c1,if_neg c1]
theorem C6x(K:List Kw)(hK:K.length<=4294967296)(hKb:∀k∈K,k.ks.length<=4294967296)(din:D)(hin:A9 din (E7 K))(o:Po)(ni:Bool)(ins:List Pl)(hb:(Pl.mk o ni ins).bk<=1073741824)(k:List Kw)(hk:(k.length:Int)=J9 o.op)(hkb:∀x∈k,x.ks.length<=48)(dkk:D)(hdk:A9 dkk (E7 k)) :
  ∃kd,((J4 K o k).2=0->A9 kd (A5 (J4 K o k).1.ks))/\Pure Tryz.prog A0P [(Pl.mk o ni ins).av,.d din,.d dkk] (.tup [.d kd,.d (eI (J4 K o k).2)]):=by
 have hB:=Pl.bd hb
 obtain⟨xo,xn,xv,xm,xd,hav,hpa⟩:=Pl.cuto o ni ins
 rw[hav]
 clear hav hb
 obtain⟨op,n,nk,ki,nr,rows,pred,nx,xs,ny,keys,na,aggs⟩:=o
 have hki:=hB.ki
 have hrl:=hB.nr
 have hrb:=hB.row
 have hpb:=hB.pred
 have hxl:=hB.xs
 have hxb:=hB.xb
 have hyl:=hB.keys
 have hal:=hB.aggs
 clear hB
 dsimp only at hki hrl hrb hpb hxl hxb hyl hal hpa hk
 have hva:=λdx dy da di=>C6A nk ki hki _ rfl rows hrl hrb (ng nr (B7 rows)) C7 op n xo xn xv xm xd dx dy da di
 have hpj:=λ(ks:List Int) (h:ks.length<=1073741824) dk hdk=>C6z ks h dk hdk xs hxl hxb (ng nx (xL xs)) C7
 have hgr:=λ(ks:List Int) (h:ks.length<=1073741824) dk hdk=>C6v ks h dk hdk keys hyl (ng ny (A5 keys)) C7 aggs hal (ng na (I0 aggs)) C7
 have hpr:=λ(ks:List Int) (h:ks.length<=1073741824) dk hdk=>C6y ks h dk hdk pred hpb
 rw[hpa] at hpr
 show ∃kd,_/\Bi.Pure Tryz.prog A0P [G3 op n (ng nk (A5 ki)) (ng nr (B7 rows)) xo xn xv xm xd (ng nx (xL xs)) (ng ny (A5 keys)) (ng na (I0 aggs)) (ng ni (pL ins)),.d din,.d dkk] _
 obtain⟨q,hq⟩:∃q,q=J4 K ⟨op,n,nk,ki,nr,rows,pred,nx,xs,ny,keys,na,aggs⟩ k:=⟨_,rfl⟩
 rw[<- hq]
 unfold J4 at hq
 dsimp only at hq
 obtain⟨dk,e1⟩:∃d,d=ng nk (A5 ki):=⟨_,rfl⟩
 obtain⟨dr,e2⟩:∃d,d=ng nr (B7 rows):=⟨_,rfl⟩
 obtain⟨dx,e3⟩:∃d,d=ng nx (xL xs):=⟨_,rfl⟩
 obtain⟨dy,e4⟩:∃d,d=ng ny (A5 keys):=⟨_,rfl⟩
 obtain⟨da,e5⟩:∃d,d=ng na (I0 aggs):=⟨_,rfl⟩
 obtain⟨di,e6⟩:∃d,d=ng ni (pL ins):=⟨_,rfl⟩
 rw[<- e1,<- e2] at hva
 rw[<- e3] at hpj
 rw[<- e4,<- e5] at hgr
 rw[<- e1,<- e2,<- e3,<- e4,<- e5,<- e6]
 have hva:=hva dx dy da di
 have hskd:A9 dk (A5 ki):=by rw[e1];exact C7
 clear e1 e2 e3 e4 e5 e6 hrl hrb hpb hxl hxb hyl hal hki hpa
 have l1:=A3u k
 have m1:=A3v k
 have hops:=A5q op
 have hg0:0<k.length->∃a,k.getD 0 K0=a/\a.ks.length<=48/\(E7 k)[(0:Int).toNat]?=some [a.d]:=λh=>by
  obtain⟨a,ha⟩:∃a,k[0]?=some a:=⟨_,F4 h⟩
  exact⟨a,by rw[I4,ha];rfl,hkb a (C3 ha),A5f ha⟩
 have hg1:1<k.length->∃a,k.getD 1 K0=a/\a.ks.length<=48/\(E7 k)[(1:Int).toNat]?=some [a.d]:=λh=>by
  obtain⟨a,ha⟩:∃a,k[1]?=some a:=⟨_,F4 h⟩
  exact⟨a,by rw[I4,ha];rfl,hkb a (C3 ha),A5f ha⟩
 obtain⟨es,hes⟩:∃z,z=E7 k:=⟨_,rfl⟩
 rw[<- hes] at hdk l1 m1 hg0 hg1
 clear hes hkb
 rcases hops with ⟨rfl,hn⟩|⟨rfl,hn⟩|⟨rfl,hn⟩|⟨rfl,hn⟩|⟨rfl,hn⟩|⟨rfl,hn⟩|⟨rfl,hn⟩|⟨rfl,hn⟩|⟨rfl,hn⟩|⟨rfl,hn⟩|⟨rfl,hn⟩|⟨⟨o1,o2,o3,o4,o5,o6,o7,o8,o9,o10,o11⟩,hn⟩
 all_goals rw[hn] at hk
 ·have hq:q=scF K n:=hq
  clear hva hpj hgr hpr hg0 hg1
  have l2:=A3u K
  have m2:=A3v K
  have g2:=λi k=>@A5f K i k
  obtain⟨fs,hfs⟩:∃z,z=E7 K:=⟨_,rfl⟩
  rw[<- hfs] at hin l2 m2 g2
  clear hfs
  unfold scF at hq
  by_cases h1:n<0
  ·rw[if_pos (.inl h1)] at hq
   subst hq
   clear g2 hKb
   refine⟨.nil,(by intro h;cases h),?_⟩
   refine A1j.go A6 rfl ?_
   repeat' first|refine st ?_|((with_reducible apply A4);conv=>whnf)|refine⟨λ_=>?_,λ_=>?_⟩|fail
   all_goals first|rfl|(exfalso;omega)
  by_cases h2:(K.length:Int)<=n
  ·rw[if_pos (.inr h2)] at hq
   subst hq
   clear g2 hKb
   refine⟨.nil,(by intro h;cases h),?_⟩
   refine A1j.go A6 rfl ?_
   repeat' first|refine st ?_|((with_reducible apply A4);conv=>whnf)|refine⟨λ_=>?_,λ_=>?_⟩|fail
   all_goals first|rfl|(exfalso;omega)
  rw[if_neg (by omega)] at hq
  obtain⟨k',hk'⟩:∃k,K[n.toNat]?=some k:=⟨_,F4 (by omega)⟩
  have hg:=g2 _ k' hk'
  have hkd:K.getD n.toNat K0=k':=by rw[I4,hk'];rfl
  rw[hkd] at hq
  have hC:=B4k k'.ks (hKb k' (C3 hk')) k'.d C7
  have hsd:A9 k'.d (A5 k'.ks):=C7
  have h3:n<fs.length:=by omega
  obtain⟨d,hd⟩:∃d,d=k'.d:=⟨_,rfl⟩
  rw[<- hd] at hg hC hsd
  cases hb:k'.ks.all Y9 with
  |false=>
   rw[hb] at hC hq
   rw[if_neg (by simp)] at hq
   subst hq
   clear g2 hKb hkd hk' hd
   refine⟨.nil,(by intro h;cases h),?_⟩
   refine A1j.go A6 rfl ?_
   repeat' first|refine st ?_|((with_reducible apply A4);conv=>whnf)|refine⟨λ_=>?_,λ_=>?_⟩|fail
   all_goals rfl
  |true=>
   rw[hb] at hC hq
   rw[if_pos rfl] at hq
   subst hq
   refine⟨d,λ_=>hsd,?_⟩
   show Bi.Pure Tryz.prog A0P [G3 1 n dk dr xo xn xv xm xd dx dy da di,.d din,.d dkk] (.tup [.d d,.d (eI 0)])
   clear g2 hKb hkd hk' hd
   refine A1j.go A6 rfl ?_
   repeat' first|refine st ?_|((with_reducible apply A4);conv=>whnf)|refine⟨λ_=>?_,λ_=>?_⟩|fail
   all_goals rfl
 ·have hq:q=vaF nk ki rows:=hq
  have hqe:q.2=vaE ki rows:=by rw[hq];exact D9X nk ki rows
  have hqk:q.2=0->q.1.ks=ki:=by
   rw[hq];unfold vaF
   intro h
   split at h
   ·cases h
   split at h
   ·split at h
    ·rename_i c1 c2 c3;rw[if_neg c1,if_pos c2,if_pos c3]
    ·cases h
   ·cases h
  rw[<- hqe] at hva
  clear hq hqe hpj hgr hpr hg0 hg1
  obtain⟨⟨qn,qk⟩,qe⟩:=q
  dsimp only at hqk hva
  refine⟨dk,λh=>by rw[hqk h];exact hskd,?_⟩
  show Bi.Pure Tryz.prog A0P [G3 2 n dk dr xo xn xv xm xd dx dy da di,.d din,.d dkk] (.tup [.d dk,.d (eI qe)])
  refine A1j.go A6 rfl ?_
  repeat' first|refine st ?_|((with_reducible apply A4);conv=>whnf)|refine⟨λ_=>?_,λ_=>?_⟩|fail
  all_goals rfl
 ·obtain⟨a,ha,hal,hg⟩:=hg0 (by omega)
  rw[ha] at hq
  have hq:q=(a,O4 a.ks pred):=hq
  have hP:=hpr a.ks (by omega) a.d C7
  have h0:(0:Int)<es.length:=by omega
  have hsd:A9 a.d (A5 a.ks):=C7
  obtain⟨ad,had⟩:∃d,d=a.d:=⟨_,rfl⟩
  rw[<- had] at hP hg hsd
  subst hq
  refine⟨ad,λ_=>hsd,?_⟩
  show Bi.Pure Tryz.prog A0P [G3 3 n dk dr xo xn xv xm xd dx dy da di,.d din,.d dkk] (.tup [.d ad,.d (eI (O4 a.ks pred))])
  obtain⟨pe,hpe⟩:∃d,d=O4 a.ks pred:=⟨_,rfl⟩
  rw[<- hpe] at hP ⊢
  clear hva hpj hgr hpr hg0 hg1 had hpe ha
  refine A1j.go A6 rfl ?_
  repeat' first|refine st ?_|((with_reducible apply A4);conv=>whnf)|refine⟨λ_=>?_,λ_=>?_⟩|fail
  all_goals rfl
 ·obtain⟨a,ha,hal,hg⟩:=hg0 (by omega)
  rw[ha] at hq
  have hq:q=(⟨true,(G8 a.ks xs).1⟩,(G8 a.ks xs).2):=hq
  have hP:=hpj a.ks (by omega) a.d C7
  have h0:(0:Int)<es.length:=by omega
  obtain⟨ad,had⟩:∃d,d=a.d:=⟨_,rfl⟩
  rw[<- had,A2m] at hP
  rw[<- had] at hg
  subst hq
  refine⟨ng true (A5 (G8 a.ks xs).1),λ_=>C7,?_⟩
  show Bi.Pure Tryz.prog A0P [G3 4 n dk dr xo xn xv xm xd dx dy da di,.d din,.d dkk] (.tup [.d (ng true (A5 (G8 a.ks xs).1)),.d (eI (G8 a.ks xs).2)])
  obtain⟨qd,hqd⟩:∃d,d=ng true (A5 (G8 a.ks xs).1):=⟨_,rfl⟩
  obtain⟨qe,hqe⟩:∃d,d=(G8 a.ks xs).2:=⟨_,rfl⟩
  rw[<- hqd,<- hqe] at hP ⊢
  clear hva hpj hgr hpr hg0 hg1 had hqd hqe ha
  refine A1j.go A6 rfl ?_
  repeat' first|refine st ?_|((with_reducible apply A4);conv=>whnf)|refine⟨λ_=>?_,λ_=>?_⟩|fail
  all_goals rfl
 ·obtain⟨a,ha,hal,hg⟩:=hg0 (by omega)
  rw[ha] at hq
  have hq:q=(a,0):=hq
  have h0:(0:Int)<es.length:=by omega
  have hsd:A9 a.d (A5 a.ks):=C7
  obtain⟨ad,had⟩:∃d,d=a.d:=⟨_,rfl⟩
  rw[<- had] at hg hsd
  subst hq
  refine⟨ad,λ_=>hsd,?_⟩
  show Bi.Pure Tryz.prog A0P [G3 10 n dk dr xo xn xv xm xd dx dy da di,.d din,.d dkk] (.tup [.d ad,.d (eI 0)])
  clear hva hpj hgr hpr hg0 hg1 had ha
  refine A1j.go A6 rfl ?_
  repeat' first|refine st ?_|((with_reducible apply A4);conv=>whnf)|refine⟨λ_=>?_,λ_=>?_⟩|fail
  all_goals rfl
 ·obtain⟨a,ha,hal,hg⟩:=hg0 (by omega)
  rw[ha] at hq
  have hq:q=(⟨true,(Q2 a.ks keys aggs).1⟩,(Q2 a.ks keys aggs).2):=hq
  have hP:=hgr a.ks (by omega) a.d C7
  have h0:(0:Int)<es.length:=by omega
  obtain⟨ad,had⟩:∃d,d=a.d:=⟨_,rfl⟩
  rw[<- had,A2m] at hP
  rw[<- had] at hg
  subst hq
  refine⟨ng true (A5 (Q2 a.ks keys aggs).1),λ_=>C7,?_⟩
  show Bi.Pure Tryz.prog A0P [G3 11 n dk dr xo xn xv xm xd dx dy da di,.d din,.d dkk] (.tup [.d (ng true (A5 (Q2 a.ks keys aggs).1)),.d (eI (Q2 a.ks keys aggs).2)])
  obtain⟨qd,hqd⟩:∃d,d=ng true (A5 (Q2 a.ks keys aggs).1):=⟨_,rfl⟩
  obtain⟨qe,hqe⟩:∃d,d=(Q2 a.ks keys aggs).2:=⟨_,rfl⟩
  rw[<- hqd,<- hqe] at hP ⊢
  clear hva hpj hgr hpr hg0 hg1 had hqd hqe ha
  refine A1j.go A6 rfl ?_
  repeat' first|refine st ?_|((with_reducible apply A4);conv=>whnf)|refine⟨λ_=>?_,λ_=>?_⟩|fail
  all_goals rfl
 iterate 2
  ·obtain⟨a,ha,hal,hg⟩:=hg0 (by omega)
   obtain⟨b,hb,hbl,hgb⟩:=hg1 (by omega)
   rw[ha,hb] at hq
   have hq:q=(⟨true,a.ks++b.ks⟩,O4 (a.ks++b.ks) pred):=hq
   have hP:=hpr (a.ks++b.ks) (by rw[H8];omega) (u7 (bif (A5 b.ks).isEmpty then bif (A5 a.ks).isEmpty then false else false else false) .nil (.sl ([]++A5 a.ks++A5 b.ks))) (.inr (by rw[show([]:List (List D))++A5 a.ks++A5 b.ks=A5 (a.ks++b.ks) by simp[A5]];cases(A5 a.ks).isEmpty<;>cases(A5 b.ks).isEmpty<;>rfl))
   have h0:(0:Int)<es.length:=by omega
   have h1:(1:Int)<es.length:=by omega
   have hsa:A9 a.d (A5 a.ks):=C7
   have hsb:A9 b.d (A5 b.ks):=C7
   have ka:=F9 a.ks
   have kb:=F9 b.ks
   have kma:=I1 a.ks
   have kmb:=I1 b.ks
   obtain⟨ad,had⟩:∃d,d=a.d:=⟨_,rfl⟩
   obtain⟨bd,hbd⟩:∃d,d=b.d:=⟨_,rfl⟩
   rw[<- had] at hg hsa
   rw[<- hbd] at hgb hsb
   subst hq
   obtain⟨pe,hpe⟩:∃d,d=O4 (a.ks++b.ks) pred:=⟨_,rfl⟩
   rw[<- hpe] at hP
   refine⟨.sl (A5 (a.ks++b.ks)),λ_=>.inr rfl,?_⟩
   show Bi.Pure Tryz.prog A0P [G3 _ n dk dr xo xn xv xm xd dx dy da di,.d din,.d dkk] (.tup [.d (.sl (A5 (a.ks++b.ks))),.d (eI (O4 (a.ks++b.ks) pred))])
   rw[<- hpe]
   rw[show A5 (a.ks++b.ks)=[]++A5 a.ks++A5 b.ks by simp[A5]]
   obtain⟨ea,hea⟩:∃z,z=A5 a.ks:=⟨_,rfl⟩
   obtain⟨eb,heb⟩:∃z,z=A5 b.ks:=⟨_,rfl⟩
   rw[<- hea] at hsa ka kma hP ⊢
   rw[<- heb] at hsb kb kmb hP ⊢
   have b1:ea.length*8<=140737488355328/\ea.length<=9223372036854775807:=by omega
   have b2:(ea.length+eb.length)*8<=140737488355328/\ea.length+eb.length<=9223372036854775807:=by omega
   clear hva hpj hgr hpr hg0 hg1 had hbd hpe ha hb hea heb
   refine A1j.go A6 rfl ?_
   repeat' first|refine st ?_|((with_reducible apply A4);conv=>whnf)|refine⟨λ_=>?_,λ_=>?_⟩|fail
   all_goals (cases ea<;>cases eb<;>rfl)
 iterate 3
  ·obtain⟨a,ha,hal,hg⟩:=hg0 (by omega)
   obtain⟨b,hb,hbl,hgb⟩:=hg1 (by omega)
   rw[ha,hb] at hq
   have hq:q=if a.ks.length=b.ks.length then (if a.ks=b.ks then (a,0) else (K0,7)) else (K0,13):=hq
   have hqe:q.2=eqE a.ks b.ks:=by rw[hq];exact D60 a b
   have hqk:q.2=0->q.1.ks=a.ks:=by
    rw[hq];intro h
    split at h
    ·split at h
     ·rename_i c1 c2;rw[if_pos c1,if_pos c2]
     ·cases h
    ·cases h
   have hS:=C6u a.ks b.ks (by omega) (by omega) a.d b.d C7 C7
   have h0:(0:Int)<es.length:=by omega
   have h1:(1:Int)<es.length:=by omega
   have hsa:A9 a.d (A5 a.ks):=C7
   obtain⟨ad,had⟩:∃d,d=a.d:=⟨_,rfl⟩
   obtain⟨bd,hbd⟩:∃d,d=b.d:=⟨_,rfl⟩
   rw[<- had,<- hbd,<- hqe] at hS
   rw[<- had] at hg hsa
   rw[<- hbd] at hgb
   clear hva hpj hgr hpr hg0 hg1 hbd ha hb hq had hqe
   obtain⟨⟨qn,qk⟩,qe⟩:=q
   dsimp only at hqk hS
   refine⟨ad,λh=>by rw[hqk h];exact hsa,?_⟩
   show Bi.Pure Tryz.prog A0P [G3 _ n dk dr xo xn xv xm xd dx dy da di,.d din,.d dkk] (.tup [.d ad,.d (eI qe)])
   clear hsa hqk hal hbl
   refine A1j.go A6 rfl ?_
   repeat' first|refine st ?_|((with_reducible apply A4);conv=>whnf)|refine⟨λ_=>?_,λ_=>?_⟩|fail
   all_goals rfl
 ·exfalso;omega
theorem D5F:∀p:Pl,1<=F5 p:=by
 intro p
 cases p with
 |mk o ni ins=>show 1<=P6 ins+1;omega
theorem C6t:∀p:Pl,p.bk<=1073741824->∀m:Nat,m<=24->Pure Tryz.prog B1h [p.av,.d (eI m)] (.d (eI (min (F5 p) (m+1):Nat))):=by
 refine Pl.ind λo ni ins ih hb m hm=>?_
 have hB:=Pl.bd hb
 obtain⟨xo,xn,xv,xm,xd,hav,_⟩:=Pl.cuto o ni ins
 have hq:F5 (.mk o ni ins)=P6 ins+1:=rfl
 have hp1:=D5F (.mk o ni ins)
 rw[hav]
 have hdi:A9 (ng ni (pL ins)) (pL ins):=C7
 obtain⟨dk,e1⟩:∃d,d=o.dk:=⟨_,rfl⟩
 obtain⟨dr,e2⟩:∃d,d=o.dr:=⟨_,rfl⟩
 obtain⟨dx,e3⟩:∃d,d=o.dx:=⟨_,rfl⟩
 obtain⟨dy,e4⟩:∃d,d=o.dy:=⟨_,rfl⟩
 obtain⟨da,e5⟩:∃d,d=o.da:=⟨_,rfl⟩
 obtain⟨di,e6⟩:∃d,d=ng ni (pL ins):=⟨_,rfl⟩
 rw[<- e1,<- e2,<- e3,<- e4,<- e5,<- e6]
 rw[<- e6] at hdi
 clear e1 e2 e3 e4 e5 e6 hav
 have l1:=b5 ins
 have m1:=e9 ins
 have g1:=λi p=>@j6 ins i p
 obtain⟨es,hes⟩:∃z,z=pL ins:=⟨_,rfl⟩
 rw[<- hes] at hdi l1 m1 g1
 clear hes
 obtain⟨q,hqq⟩:∃q,q=min (F5 (.mk o ni ins)) (m+1):=⟨_,rfl⟩
 rw[<- hqq]
 rw[hq] at hqq
 have hil:=hB.il
 have hsub:=hB.sub
 clear hB hb
 by_cases h0:m=0
 ·subst h0
  have:q=1:=by omega
  subst this
  clear g1 ih
  refine B4I.go A6 rfl ?_
  repeat' first|refine st ?_|((with_reducible apply A4);conv=>whnf)|refine⟨λ_=>?_,λ_=>?_⟩|fail
  all_goals rfl
 obtain⟨m',rfl⟩:∃m',m=m'+1:=⟨m-1,by omega⟩
 refine B4I.go A6 rfl ?_
 repeat' first|refine st ?_|((with_reducible apply A4);conv=>whnf)|refine⟨λ_=>?_,λ_=>?_⟩|fail
 refine K6 A6 D1m D05 (λ(i:Nat)=>[.d (eI (min (P6 (ins.take i)) (m'+1):Nat)),.d (eI i)]) (λi=>[.cells [.d (eI o.op),.d (eI o.n),.d dk,.d dr,.d (eI xo),.d (eI xn),.d (eI xv.k),.d (eI xv.n),.d (.str xv.s),.d (.str xm),.d xd,.d dx,.d dy,.d da,.d di]]) (λi=>i<=ins.length) (λi=>ins.length-i) 0 rfl rfl rfl rfl (λ_ _=>⟨rfl,rfl⟩) rfl (by omega) ?_
 repeat' first|refine st ?_|((with_reducible apply A4);conv=>whnf)|refine⟨λ_=>?_,λ_=>?_⟩|fail
 intro i i1
 cases hx:ins[i]? with
 |some p=>
  have hlt:=(B4.1 hx).1
  have hilt:(i:Int)<es.length:=by omega
  have hg:=g1 i p hx
  have hI:=ih p (C3 hx) (hsub p (C3 hx)) m' (by omega)
  have htk:=B1L hx
  obtain⟨op',n',dk',dr',xo',xn',xv',xm',xd',dx',dy',da',di',c1,c2⟩:=Pl.cut p
  have hg:es[((i:Nat):Int).toNat]?=some (K1 op' n' dk' dr' xo' xn' xv' xm' xd' dx' dy' da' di'):=by rw[<- c1];exact hg
  rw[c2] at hI
  obtain⟨u,hu⟩:∃u,u=P6 (ins.take i):=⟨_,rfl⟩
  obtain⟨v,hv⟩:∃u,u=F5 p:=⟨_,rfl⟩
  rw[<- hu,<- hv] at htk
  rw[<- hv] at hI
  rw[<- hu]
  have hI:Bi.Pure Tryz.prog B1h [G3 op' n' dk' dr' xo' xn' xv' xm' xd' dx' dy' da' di',.d (eI (((m'+1:Nat):Int)-1))] (.d (eI (min v (m'+1):Nat))):=by
   rw[show(((m'+1:Nat):Int)-1)=(m':Nat) by omega];exact hI
  clear c1 c2 hx hv ih g1 hu
  repeat' first|refine st ?_|((with_reducible apply A4);conv=>whnf)|refine⟨λ_=>?_,λ_=>?_⟩|fail
  exact⟨i+1,by rw[htk,show((min (max u v) (m'+1):Nat):Int)=max ((min u (m'+1):Nat):Int) ((min v (m'+1):Nat):Int) by omega];rfl,rfl,rfl,by omega,by omega⟩
 |none=>
  have hge:=E9.1 hx
  have hilt:(es.length:Int)<=i:=by omega
  rw[H4 hge]
  obtain⟨u,hu⟩:∃u,u=P6 ins:=⟨_,rfl⟩
  rw[<- hu] at hqq ⊢
  have hqi:(q:Int)=((min u (m'+1):Nat):Int)+1:=by omega
  rw[hqi]
  clear hx ih g1 hu
  repeat' first|refine st ?_|((with_reducible apply A4);conv=>whnf)|refine⟨λ_=>?_,λ_=>?_⟩|fail
  all_goals rfl
end Go.Proofs
end
section
namespace Go.Bi
theorem E0r{P:Program}{n nb:Nat}{cd:IC}{N:Sl->List AO->Prop}{E0:Nat->Sl->List AO->Prop}{R:Sl->List AO->Prop}{L:Sl}{os:List AO}(id off sz:Nat)(hsz:Nat.blt 0 sz=true){cs:List AV}(ho:os[id]?=some (.cells cs))(hn:cs[off]?=some (.d .nil))
  (k:s8 P n nb cd N E0 R L ((os++[AO.arr [] sz 0 true]).set id (.cells (cs.set off (.arr os.length 0))))):s8 P n nb cd N E0 R L os:=by
 have hw:=C4k (n:=n) (nb:=nb) (ρ:=E8 L) (os:=os) id off sz (A3e A4T (R3 hsz)) ho hn
 refine⟨λcode hc c M G w a hR=>?_⟩
 obtain⟨M',G',hR'⟩:=hw c M G w a hR
 exact k.h code hc c M' G' w a hR'
end Go.Bi
namespace Go.Proofs
open Go.Bi
theorem A2P(f:Nat->Nat)(ds:List D):mG f (.agg (ds.map .d))=.agg (ds.map .d):=by
 simp only[mG,V0]
 congr 1
theorem R6(f:Nat->Nat)(ds:List D):mA f (.agg (ds.map .d))=.agg (ds.map .d):=by
 simp only[mA,mG,V0]
 congr 1
theorem A08(ds:List D)(n:Nat):(AV.agg (ds.map .d)).bnd2 n:=by
 intro c hc
 obtain⟨x,_,rfl⟩:=D7.1 hc
 trivial
theorem C2l{g:FuncId}(a:AV){x y:D}{r:AV}(ds:List D)(h:B9 Tryz.prog g [.agg (ds.map .d),a] [.cells [.d x]] (λr' os'=>r'=r/\os'=[.cells [.d y]]))(a':Nat->AV)(ha:∀id n,mG (rn [id] n) a=a' id)(hba:a.bnd2 1)(hr:∀f,mA f r=r){os:List AO}{id:Nat}(ho:os[id]?=some (.cells [.d x])) :
  B9 Tryz.prog g [.agg (ds.map .d),a' id] os (λr' os'=>r'=r/\os'=os.set id (.cells [.d y])):=by
 have:=B9.frame (K:=λr' os'=>r'=r/\os'=os.set id (.cells [.d y])) h [id] os rfl (by simp) (λi o hx=>?_) (λz hz=>?_) (λo hx=>?_) ?_
 ·rw[H5,H5,V7,A2P,ha] at this;exact this
 ·cases i with
  |zero=>simp at hx;subst hx;exact ho
  |succ i=>simp at hx
 ·simp only[H2,U2,or_false] at hz
  rcases hz with rfl|rfl
  ·exact A08 _ _
  ·exact hba
 ·cases M7.1 hx
  simp[AO.bnd,AV.bnd1]
 ·rintro _ _ ⟨rfl,rfl⟩
  refine⟨hr _,?_⟩
  simp[V5,mO,mC]
theorem D7v{g:FuncId}{x y:D}{r:AV}{ds:List D}(h:B9 Tryz.prog g [.agg (ds.map .d),.ptr 0 0] [.cells [.d x]] (λr' os'=>r'=r/\os'=[.cells [.d y]]))(hr:∀f,mA f r=r){os:List AO}{id:Nat}(ho:os[id]?=some (.cells [.d x])) :
  B9 Tryz.prog g [.agg (ds.map .d),.ptr id 0] os (λr' os'=>r'=r/\os'=os.set id (.cells [.d y])):=
 C2l _ _ h (λid=>.ptr id 0) (λid n=>rfl) (by simp[AV.bnd2,AV.bnd1]) hr ho
theorem C2m{g f:FuncId}{x y:D}{r:AV}{ds:List D}(h:B9 Tryz.prog g [.agg (ds.map .d),.clo f [0]] [.cells [.d x]] (λr' os'=>r'=r/\os'=[.cells [.d y]]))(hr:∀f,mA f r=r){os:List AO}{id:Nat}(ho:os[id]?=some (.cells [.d x])) :
  B9 Tryz.prog g [.agg (ds.map .d),.clo f [id]] os (λr' os'=>r'=r/\os'=os.set id (.cells [.d y])):=
 C2l _ _ h (λid=>.clo f [id]) (λid n=>rfl) (by simp[AV.bnd2,AV.bnd1]) hr ho
mutual
def b9(φ:Ex->Ex):Ex->Ex
 |.mk op n v nm nl args=>if op=2 then φ (.mk op n v nm true (A5v φ args)) else .mk op n v nm true (A5v φ args)
def A5v(φ:Ex->Ex):List Ex->List Ex
 |[]=>[]
 |a::l=>b9 φ a::A5v φ l
end
theorem C2x(φ:Ex->Ex):∀l,A5v φ l=l.map (b9 φ)
 |[]=>by simp[A5v]
 |a::l=>by simp[A5v,C2x φ l]
theorem C2w(φ:Ex->Ex)(op n:Int)(v:Vl)(nm:List UInt8)(nl:Bool)(args:List Ex):b9 φ (.mk op n v nm nl args)=if op=2 then φ (.mk op n v nm true (args.map (b9 φ))) else .mk op n v nm true (args.map (b9 φ)):=by
 rw[b9,C2x]
def Mt(φ:Ex->Ex)(l:List Ex)(i:Nat):List (List D):=xL ((l.take i).map φ)
theorem B7Q(φ:Ex->Ex)(l:List Ex)(i:Nat)(h:i<=l.length):(Mt φ l i).length=i:=by
 unfold Mt
 rw[P0,D8,M4]
 omega
theorem B7R(φ:Ex->Ex)(l:List Ex)(i:Nat):∀e∈Mt φ l i,e.length=7:=P2 _
theorem B7S{φ:Ex->Ex}{l:List Ex}{i:Nat}{c:Ex}(h:l[i]?=some c):Mt φ l i++[(φ c).ds]=Mt φ l (i+1):=by
 unfold Mt
 rw[L8,h]
 simp[xL]
theorem B7P{φ:Ex->Ex}{l:List Ex}{i:Nat}(h:l.length<=i):Mt φ l i=xL (l.map φ):=by
 unfold Mt
 rw[H4 h]
theorem D7G(l:List (List D)):ng true l=if l.isEmpty then .nil else .sl l:=by unfold ng;rw[Q4]
theorem C53(g:FuncId)(y:D)(φ:Ex->Ex)(hg:∀x:Ex,B9 Tryz.prog g [x.av,.ptr 0 0] [.cells [.d y]] (λr os=>r=(φ x).av/\os=[.cells [.d y]])):∀e:Ex,e.bk<=1073741824->B9 Tryz.prog A8n [e.av,.clo g [0]] [.cells [.d y]] (λr os=>r=(b9 φ e).av/\os=[.cells [.d y]]):=by
 refine Ex.ind λop n v nm nl args ih hb=>?_
 obtain⟨b1,b2,b3,b4⟩:=Ex.bk_bounds hb
 obtain⟨Z,hZ⟩:∃Z,Z=(b9 φ (.mk op n v nm nl args)).av:=⟨_,rfl⟩
 rw[<- hZ]
 rw[C2w] at hZ
 rw[Ex.av_mk]
 refine C8i.goX A6 rfl ?_
 have h1:=P0 args
 have hm:=P2 args
 obtain⟨da,hda⟩:∃d,d=ng nl (xL args):=⟨_,rfl⟩
 have hsd:A9 da (xL args):=by rw[hda];exact C7
 rw[<- hda]
 have r0:v.k=v.k:=rfl
 have r1:v.s=v.s:=rfl
 have r2:nm=nm:=rfl
 repeat' first|refine st ?_|refine⟨λ_=>?_,λ_=>?_⟩|fail
 refine U7 5 7 rfl rfl ?_
 repeat' first|refine st ?_|refine⟨λ_=>?_,λ_=>?_⟩|fail
 refine L6 A6 D1c C9V (λ(i:Nat) (w:List (List D)×Bool)=>[.arr 3 w.1.length,.d (eI i)]) (λi w=>[.cells [.d y],.cells [.d (eI op),.d (eI n),.d (eI v.k),.d (eI v.n),.d (.str v.s),.d (.str nm),.d da],.cells [.d (eI 0),.d (eI 0),.d (eI 0),.d (eI 0),.d (.str []),.d (.str []),.d .nil],.arr w.1 7 0 w.2]) (λi w=>i<=args.length/\w.1=Mt (b9 φ) args i/\w.2=w.1.isEmpty) (λi _=>args.length-i) 0 ([],true) rfl rfl rfl rfl (λ_ _ _=>⟨rfl,rfl⟩) rfl ⟨by omega,rfl,rfl⟩ ?_
 repeat' first|refine st ?_|refine⟨λ_=>?_,λ_=>?_⟩|fail
 intro i w ⟨h4,h5,h6⟩
 obtain⟨A,b⟩:=w
 dsimp only at h5 h6 ⊢
 have hAl:A.length=i:=by rw[h5];exact B7Q _ args i (by omega)
 have hAm:∀e∈A,e.length=7:=by rw[h5];exact B7R _ _ _
 cases hx:args[i]? with
 |some x=>
  have hlt:=(B4.1 hx).1
  have hs:=B7S (φ:=b9 φ) hx
  have hg:=Y1 hx
  have hi:=ih x (C3 hx) (b4 x (C3 hx))
  rw[<- h5] at hs
  have hL:∀os:List AO,os[0]?=some (.cells [.d y])->B9 Tryz.prog A8n [x.av,.clo g [0]] os (λr' os'=>r'=(b9 φ x).av/\os'=os.set 0 (.cells [.d y])):=λos ho=>C2m (id:=0) hi (λf=>R6 f _) ho
  obtain⟨z,hz⟩:∃z,z=b9 φ x:=⟨_,rfl⟩
  rw[<- hz] at hs hL
  obtain⟨o1,n1,v1,m1,l1,a1⟩:=x
  obtain⟨o2,n2,v2,m2,l2,a2⟩:=z
  rw[Ex.ds_mk] at hg hs
  simp only[Ex.av_mk] at hL
  repeat' first|refine st ?_|((with_reducible first|apply O8|apply O7);(·exact hL _ rfl);(try rintro _ _ ⟨rfl,rfl⟩))|((with_reducible apply O9);(·exact hL _ rfl))|refine⟨λ_=>?_,λ_=>?_⟩|fail
  exact⟨i+1,(A++[T5 o2 n2 v2 m2 (ng l2 (xL a2))],false),rfl,rfl,rfl,by omega,by omega,hs,by simp⟩
 |none=>
  have hge:=E9.1 hx
  rw[B7P hge] at h5
  have hx':(Ex.mk op n v nm true (args.map (b9 φ))).av=eX op n v nm (if A.isEmpty then .nil else .sl A):=by rw[Ex.av_mk,D7G,<- h5]
  have hφ:∀os:List AO,os[0]?=some (.cells [.d y])->B9 Tryz.prog g [(Ex.mk op n v nm true (args.map (b9 φ))).av,.ptr 0 0] os (λr' os'=>r'=(φ (.mk op n v nm true (args.map (b9 φ)))).av/\os'=os.set 0 (.cells [.d y])):=λos ho=>D7v (id:=0) (hg _) (λf=>R6 f _) ho
  rw[<- h6] at hx'
  by_cases h2:op=2
  ·rw[if_pos h2] at hZ
   obtain⟨z,hz⟩:∃z,z=φ (.mk op n v nm true (args.map (b9 φ))):=⟨_,rfl⟩
   rw[<- hz] at hZ hφ
   rw[hx'] at hφ
   obtain⟨o2,n2,v2,m2,l2,a2⟩:=z
   simp only[Ex.av_mk] at hZ hφ
   rw[hZ]
   cases b with
   |true=>
    rw[if_pos rfl] at hφ
    repeat' first|refine st ?_|((with_reducible first|apply O8|apply O7);(·exact hφ _ rfl);(try rintro _ _ ⟨rfl,rfl⟩))|((with_reducible apply O9);(·exact hφ _ rfl))|refine⟨λ_=>?_,λ_=>?_⟩|fail
    all_goals exact⟨rfl,rfl⟩
   |false=>
    rw[if_neg (by simp)] at hφ
    repeat' first|refine st ?_|((with_reducible first|apply O8|apply O7);(·exact hφ _ rfl);(try rintro _ _ ⟨rfl,rfl⟩))|((with_reducible apply O9);(·exact hφ _ rfl))|refine⟨λ_=>?_,λ_=>?_⟩|fail
    all_goals exact⟨rfl,rfl⟩
  ·rw[if_neg h2,hx'] at hZ
   rw[hZ]
   cases b with
   |true=>
    repeat' first|refine st ?_|refine⟨λ_=>?_,λ_=>?_⟩|fail
    all_goals exact⟨rfl,rfl⟩
   |false=>
    repeat' first|refine st ?_|refine⟨λ_=>?_,λ_=>?_⟩|fail
    all_goals exact⟨rfl,rfl⟩
def u3(k:Int):Ex->Ex
 |.mk op n v nm nl args=>.mk op (M5 (n+k)) v nm nl args
def B0(k:Int)(e:Ex):Ex:=b9 (u3 k) e
theorem C4S(k:Int)(x:Ex):B9 Tryz.prog A8m [x.av,.ptr 0 0] [.cells [.d (eI k)]] (λr os=>r=(u3 k x).av/\os=[.cells [.d (eI k)]]):=by
 obtain⟨op,n,v,nm,nl,args⟩:=x
 rw[u3,Ex.av_mk,Ex.av_mk]
 refine C8c.goX A6 rfl ?_
 repeat' first|refine st ?_|refine⟨λ_=>?_,λ_=>?_⟩|fail
 all_goals exact⟨rfl,rfl⟩
theorem A2v(e:Ex)(he:e.bk<=1073741824)(k:Int):Pure Tryz.prog B9d [e.av,.d (eI k)] (B0 k e).av:=by
 have hM:=C53 A8m (eI k) (u3 k) (C4S k) e he
 have hL:∀os:List AO,os[1]?=some (.cells [.d (eI k)])->B9 Tryz.prog A8n [e.av,.clo A8m [1]] os (λr' os'=>r'=(b9 (u3 k) e).av/\os'=os.set 1 (.cells [.d (eI k)])):=λos ho=>C2m (id:=1) hM (λf=>R6 f _) ho
 unfold B0
 obtain⟨z,hz⟩:∃z,z=b9 (u3 k) e:=⟨_,rfl⟩
 rw[<- hz] at hL ⊢
 obtain⟨o1,n1,v1,m1,l1,a1⟩:=e
 obtain⟨o2,n2,v2,m2,l2,a2⟩:=z
 simp only[Ex.av_mk] at hL ⊢
 refine C8b.go A6 rfl ?_
 repeat' first|refine st ?_|((with_reducible first|apply O8|apply O7);(·exact hL _ rfl);(try rintro _ _ ⟨rfl,rfl⟩))|((with_reducible apply O9);(·exact hL _ rfl))|refine⟨λ_=>?_,λ_=>?_⟩|fail
 all_goals rfl
theorem A1N(k op n:Int)(v:Vl)(nm:List UInt8)(nl:Bool)(args:List Ex):B0 k (.mk op n v nm nl args)=.mk op (if op=2 then M5 (n+k) else n) v nm true (args.map (B0 k)):=by
 unfold B0
 rw[C2w]
 by_cases h:op=2
 ·rw[if_pos h,if_pos h];rfl
 ·rw[if_neg h,if_neg h]
end Go.Proofs
end
section
namespace Go.Bi
theorem A0y{f:Nat->Nat}{k:Nat}(hf:∀i,i<k->f i=i){c:AV}(h:c.bnd1 k):mC f c=c:=by
 cases c with
 |ptr id off=>simp only[mC];rw[hf id h]
 |aptr id len i off=>simp only[mC];rw[hf id h]
 |arr id len=>simp only[mC];rw[hf id h]
 |clo g caps=>
  simp only[mC]
  congr 1
  conv=>rhs;rw[<- v8 caps]
  exact P5 λi hi=>hf i (h i hi)
 |bcl g id=>simp only[mC];rw[hf id h]
 |iter id=>simp only[mC];rw[hf id h]
 |mp id=>simp only[mC];rw[hf id h]
 |mit id=>simp only[mC];rw[hf id h]
 |rs id len=>simp only[mC];rw[hf id h]
 |rp id len i off=>simp only[mC];rw[hf id h]
 |_=>rfl
theorem C2s{f:Nat->Nat}{k:Nat}(hf:∀i,i<k->f i=i){c:AV}(h:c.bnd2 k):mG f c=c:=by
 cases c with
 |agg cs=>
  simp only[mG]
  congr 1
  conv=>rhs;rw[<- v8 cs]
  exact P5 λc hc=>A0y hf (h c hc)
 |ptr id off=>exact A0y (c:=.ptr id off) hf h
 |aptr id len i off=>exact A0y (c:=.aptr id len i off) hf h
 |arr id len=>exact A0y (c:=.arr id len) hf h
 |clo g caps=>exact A0y (c:=.clo g caps) hf h
 |bcl g id=>exact A0y (c:=.bcl g id) hf h
 |iter id=>exact A0y (c:=.iter id) hf h
 |mp id=>exact A0y (c:=.mp id) hf h
 |mit id=>exact A0y (c:=.mit id) hf h
 |rs id len=>exact A0y (c:=.rs id len) hf h
 |rp id len i off=>exact A0y (c:=.rp id len i off) hf h
 |_=>rfl
theorem C2u{f:Nat->Nat}{k:Nat}(hf:∀i,i<k->f i=i){o:AO}(h:o.bnd k):mO f o=o:=by
 cases o with
 |cells cs=>
  simp only[mO]
  congr 1
  conv=>rhs;rw[<- v8 cs]
  exact P5 λc hc=>A0y hf (h c hc)
 |map kvs=>
  simp only[mO]
  congr 1
  conv=>rhs;rw[<- v8 kvs]
  exact P5 λp hp=>by rw[C2s hf (h p hp)];rfl
 |mit m n s=>simp only[mO];rw[hf m h]
 |rarr es sz nl=>
  simp only[mO]
  congr 1
  conv=>rhs;rw[<- v8 es]
  refine P5 λe he=>?_
  conv=>rhs;rw[id,<- v8 e]
  exact P5 λc hc=>A0y hf (h e he c hc)
 |_=>rfl
theorem B9.pre{P:Program}{g:FuncId}{args:List AV}{bs:List AO}{Q:AV->List AO->Prop}(h:B9 P g args bs Q)(rest:List AO)(hba:∀a∈args,a.bnd2 bs.length)(hbo:∀o∈bs,o.bnd bs.length){K:AV->List AO->Prop}
  (hk:∀r bs',Q r bs'->bs'.length=bs.length/\(∀o∈bs',o.bnd bs.length)/\(∀f,mA f r=r)/\K r (bs'++rest)):B9 P g args (bs++rest) K:=by
 have hf:∀n i,i<bs.length->rn (List.range bs.length) n i=i:=λn i hi=>by
  rw[B2X (by simpa using hi),I4]
  simp[hi]
 have:=B9.frame (K:=K) h (List.range bs.length) (bs++rest) (by simp) List.nodup_range (λi o hx=>?_) hba hbo (λr bs' hq=>?_)
 ·have e:args.map (mG (rn (List.range bs.length) (bs++rest).length))=args:=by
   conv=>rhs;rw[<- v8 args]
   exact P5 λa ha=>C2s (hf _) (hba a ha)
  rwa [e] at this
 ·have hi:=(B4.1 hx).1
  have e:=hf (bs++rest).length i hi
  rw[B2X (by simpa using hi)] at e
  rw[e,P8 hi,hx,C2u (hf _) (hbo o (C3 hx))]
 ·obtain⟨h1,h2,h3,h4⟩:=hk r bs' hq
  rw[h3]
  obtain⟨g1,g2,g3,g4⟩:=B2R (rn (List.range bs.length) (bs++rest).length) (List.range bs.length) bs' (bs++rest) List.nodup_range (λs hs=>by simp at hs ⊢;omega) (by simp[h1])
  have e:V5 (rn (List.range bs.length) (bs++rest).length) (List.range bs.length) bs' (bs++rest)=bs'++rest:=by
   refine List.ext_getElem? λj=>?_
   rcases Nat.lt_or_ge j bs.length with hj|hj
   ·have hb:bs'[j]?=some bs'[j]:=F4 (by omega)
    rw[g1 j j _ (by simp[hj]) hb,P8 (by omega),hb,C2u (hf _) (h2 _ (C3 hb))]
   ·rcases Nat.lt_or_ge j (bs++rest).length with hj2|hj2
    ·rw[g2 j hj2 (by simp;omega),W4 hj,W4 (by omega),h1]
    ·rw[A1m (by rw[g4];simp at hj2 ⊢;omega),A1m (by simp at hj2 ⊢;omega)]
  rw[e]
  exact h4
end Go.Bi
namespace Go.Proofs
open Go.Bi
def x9(op n:Int)(v:Vl)(nm:List UInt8)(k:Nat):Bool:=decide (op=5/\2<=k/\n=0/\nm=[]/\v=E6)
mutual
/-- The conjuncts. -/
def cj:Ex->List Ex
 |.mk op n v nm nl args=>if x9 op n v nm args.length then cjs args else [.mk op n v nm nl args]
def cjs:List Ex->List Ex
 |[]=>[]
 |a::l=>cj a++cjs l
end
theorem C0B:∀l,cjs l=l.flatMap cj
 |[]=>by simp[cjs]
 |a::l=>by simp[cjs,C0B l]
theorem A0U(op n:Int)(v:Vl)(nm:List UInt8)(nl:Bool)(args:List Ex):cj (.mk op n v nm nl args)=if x9 op n v nm args.length then args.flatMap cj else [.mk op n v nm nl args]:=by rw[cj,C0B]
theorem C1E{l:List Ex}{f:Ex->List Ex}(h:∀a∈l,(f a).length<=a.bk):(l.flatMap f).length<=D6 (xL l):=by
 induction l with
 |nil=>simp
 |cons a l ih=>
  have h1:=h a (by simp)
  have h2:=ih λb hb=>h b (by simp[hb])
  rw[A41,H8]
  simp only[xL,H5,D6]
  unfold Ex.bk at h1
  unfold xL at h2
  omega
theorem A3n:∀e:Ex,(cj e).length<=e.bk:=by
 refine Ex.ind λop n v nm nl args ih=>?_
 have hb:=Ex.bk_mk op n v nm nl args
 rw[A0U]
 split
 ·have:=C1E ih
  omega
 ·simp;omega
theorem B1C:∀e:Ex,∀x∈cj e,x.bk<=e.bk:=by
 refine Ex.ind λop n v nm nl args ih x hx=>?_
 rw[A0U] at hx
 split at hx
 ·obtain⟨a,ha,hxa⟩:=A03.1 hx
  have:=ih a ha x hxa
  have:=Ex.bk_arg (op:=op) (n:=n) (v:=v) (name:=nm) (nl:=nl) ha
  omega
 ·simp at hx;subst hx;omega
theorem B1E{l:List Ex}{i:Nat}{x:Ex}(h:l[i]?=some x):(l.take (i+1)).flatMap cj=(l.take i).flatMap cj++cj x:=by
 rw[L8,h];simp
theorem C0y{l:List Ex}{i:Nat}{x:Ex}(h:l[i]?=some x):(l.drop i).flatMap cj=cj x++(l.drop (i+1)).flatMap cj:=by
 obtain⟨hlt,he⟩:=B4.1 h
 rw[S1 hlt,he];simp
theorem D5c(l:List Ex)(i:Nat):((l.take i).flatMap cj).length<=D6 (xL l):=by
 have h1:((l.take i).flatMap cj).length<=(l.flatMap cj).length:=by
  conv=>rhs;rw[<- A45 i l,List.flatMap_append,H8]
  omega
 have h2:=C1E (l:=l) (f:=cj) (λa _=>A3n a)
 omega
theorem D6G{op n:Int}{v:Vl}{nm:List UInt8}{k:Nat}(h:x9 op n v nm k=true):op=5/\2<=k/\n=0/\nm=[]/\v.k=0/\v.n=0/\v.s=[]:=by
 unfold x9 at h
 obtain⟨h1,h2,h3,h4,h5⟩:=of_decide_eq_true h
 subst h5
 exact⟨h1,h2,h3,h4,rfl,rfl,rfl⟩
theorem D6F{op n:Int}{v:Vl}{nm:List UInt8}{k:Nat}(h:x9 op n v nm k=false)(h1:op=5)(h2:2<=k)(h3:n=0)(h4:nm=[])(h5:v.k=0)(h6:v.n=0)(h7:v.s=[]):False:=by
 unfold x9 at h
 have:=of_decide_eq_false h
 exact this ⟨h1,h2,h3,h4,by cases v;simp_all[E6]⟩
theorem B3F(g:FuncId)(sz:Nat)(f:List (List D)->Ex->List (List D))(ok:Nat->List (List D)->Prop)(hg:∀x:Ex,x.bk<=1073741824->∀(k:Nat)(s:List (List D)),ok (k+1) s->ok k (f s x)/\B9 Tryz.prog g [x.av,.ptr 0 0] [.cells [.arr 1 s.length],.arr s sz 0 s.isEmpty] (λr os=>r=.tup []/\os=[.cells [.arr 1 (f s x).length],.arr (f s x) sz 0 (f s x).isEmpty])):∀e:Ex,e.bk<=1073741824->∀(k:Nat)(s:List (List D)),ok (k+(cj e).length) s->ok k ((cj e).foldl f s)/\B9 Tryz.prog A4S [e.av,.clo g [0]] [.cells [.arr 1 s.length],.arr s sz 0 s.isEmpty] (λr os=>r=.tup []/\os=[.cells [.arr 1 ((cj e).foldl f s).length],.arr ((cj e).foldl f s) sz 0 ((cj e).foldl f s).isEmpty]):=by
 have hP:∀x:Ex,x.bk<=1073741824->∀(k:Nat) (s:List (List D)),ok (k+1) s->∀rest,B9 Tryz.prog g [x.av,.ptr 0 0] ([.cells [.arr 1 s.length],.arr s sz 0 s.isEmpty]++rest) (λr os=>r=.tup []/\os=[.cells [.arr 1 (f s x).length],.arr (f s x) sz 0 (f s x).isEmpty]++rest):=λx hx k s hs rest=>
  B9.pre (hg x hx k s hs).2 rest (by
   intro a ha
   simp only[H2,U2,or_false] at ha
   rcases ha with rfl|rfl
   ·exact A08 _ _
   all_goals simp[AV.bnd2,AV.bnd1]) (by intro o ho;simp at ho;(try rcases ho with rfl|rfl|rfl)<;>(try rcases ho with rfl|rfl)<;>(try subst ho)<;>simp[AO.bnd,AV.bnd1]) (by rintro r bs' ⟨rfl,rfl⟩;exact⟨rfl,by intro o ho;simp at ho;(try rcases ho with rfl|rfl|rfl)<;>(try rcases ho with rfl|rfl)<;>(try subst ho)<;>simp[AO.bnd,AV.bnd1],λf=>rfl,rfl,rfl⟩)
 refine Ex.ind λop n v nm nl args ih hb k s hs=>?_
 obtain⟨b1,b2,b3,b4⟩:=Ex.bk_bounds hb
 have h1:=P0 args
 have hm:=P2 args
 have hP':=hP (.mk op n v nm nl args) hb k s
 have hg':=hg (.mk op n v nm nl args) hb k s
 rw[A0U] at hs ⊢
 rw[Ex.av_mk] at hP' ⊢
 obtain⟨da,hda⟩:∃d,d=ng nl (xL args):=⟨_,rfl⟩
 have hsd:A9 da (xL args):=by rw[hda];exact C7
 rw[<- hda] at hP' ⊢
 cases hA:x9 op n v nm args.length with
 |false=>
  have hF:=D6F hA
  rw[hA,if_neg (by simp)] at hs
  rw[if_neg (by simp)]
  have hq:=hP' hs
  rw[s6,List.foldl_nil]
  refine⟨(hg' hs).1,?_⟩
  refine B4F.goX A6 rfl ?_
  repeat' first|refine st ?_|((with_reducible first|apply O8|apply O7);(·exact hq _);(try rintro _ _ ⟨rfl,rfl⟩))|((with_reducible apply O9);(·exact hq _))|refine⟨λ_=>?_,λ_=>?_⟩|fail
  all_goals first|exact⟨rfl,rfl⟩|(exfalso;exact hF (by assumption) (by omega) (by assumption) (by assumption) (by assumption) (by assumption) (by assumption))|(exfalso;simp_all;done)
 |true=>
  obtain⟨c1,c2,c3,c4,c5,c6,c7⟩:=D6G hA
  rw[hA,if_pos rfl] at hs
  rw[if_pos rfl]
  have key:∀i,i<=args.length->ok (k+((args.drop i).flatMap cj).length) (((args.take i).flatMap cj).foldl f s):=by
   intro i
   induction i with
   |zero=>intro _;simpa using hs
   |succ i ihi=>
    intro hi
    have hx:args[i]?=some args[i]:=F4 (by omega)
    have hi':=ihi (by omega)
    rw[C0y hx,H8,show ∀a b:Nat,k+(a+b)=k+b+a by intros;omega] at hi'
    rw[B1E hx,A64]
    exact(ih _ (C3 hx) (b4 _ (C3 hx)) _ _ hi').1
  have keyE:=key args.length (D3 _)
  rw[List.take_length,List.drop_length] at keyE
  refine⟨keyE,?_⟩
  refine B4F.goX A6 rfl ?_
  repeat' first|refine st ?_|refine⟨λ_=>?_,λ_=>?_⟩|fail
  refine K6 A6 D1h D00 (λ(i:Nat)=>[.d (eI i)]) (λi=>[.cells [.arr 1 (((args.take i).flatMap cj).foldl f s).length],.arr (((args.take i).flatMap cj).foldl f s) sz 0 (((args.take i).flatMap cj).foldl f s).isEmpty]++[.cells [.d (eI op),.d (eI n),.d (eI v.k),.d (eI v.n),.d (.str v.s),.d (.str nm),.d da]]) (λi=>i<=args.length) (λi=>args.length-i) 0 rfl rfl rfl rfl (λ_ _=>⟨rfl,rfl⟩) rfl (N1 _) ?_
  repeat' first|refine st ?_|refine⟨λ_=>?_,λ_=>?_⟩|fail
  intro i h4
  obtain⟨t,ht⟩:∃t,t=((args.take i).flatMap cj).foldl f s:=⟨_,rfl⟩
  have hkt:=key i h4
  rw[<- ht] at hkt ⊢
  cases hx:args[i]? with
  |some x=>
   have hlt:=(B4.1 hx).1
   have hgx:=Y1 hx
   have hxm:=C3 hx
   rw[C0y hx,H8,show ∀a b:Nat,k+(a+b)=k+b+a by intros;omega] at hkt
   have hi:=ih x hxm (b4 x hxm) _ t hkt
   have hn:((args.take (i+1)).flatMap cj).foldl f s=(cj x).foldl f t:=by rw[B1E hx,A64,ht]
   have hL:∀rest,B9 Tryz.prog A4S [x.av,.clo g [0]] ([.cells [.arr 1 t.length],.arr t sz 0 t.isEmpty]++rest) (λr os=>r=.tup []/\os=[.cells [.arr 1 (((args.take (i+1)).flatMap cj).foldl f s).length],.arr (((args.take (i+1)).flatMap cj).foldl f s) sz 0 (((args.take (i+1)).flatMap cj).foldl f s).isEmpty]++rest):=λrest=>by
    rw[hn]
    exact B9.pre hi.2 rest (by
     intro a ha
     simp only[H2,U2,or_false] at ha
     rcases ha with rfl|rfl
     ·exact A08 _ _
     ·simp[AV.bnd2,AV.bnd1]) (by intro o ho;simp at ho;(try rcases ho with rfl|rfl|rfl)<;>(try rcases ho with rfl|rfl)<;>(try subst ho)<;>simp[AO.bnd,AV.bnd1]) (by rintro r bs' ⟨rfl,rfl⟩;exact⟨rfl,by intro o ho;simp at ho;(try rcases ho with rfl|rfl|rfl)<;>(try rcases ho with rfl|rfl)<;>(try subst ho)<;>simp[AO.bnd,AV.bnd1],λf=>rfl,rfl,rfl⟩)
   obtain⟨o1,n1,v1,m1,l1,a1⟩:=x
   rw[Ex.ds_mk] at hgx
   simp only[Ex.av_mk] at hL
   repeat' first|refine st ?_|((with_reducible first|apply O8|apply O7);(·exact hL _);(try rintro _ _ ⟨rfl,rfl⟩))|((with_reducible apply O9);(·exact hL _))|refine⟨λ_=>?_,λ_=>?_⟩|fail
   exact⟨i+1,rfl,rfl,rfl,by omega,by omega⟩
  |none=>
   have hge:=E9.1 hx
   rw[H4 hge] at ht
   rw[<- ht]
   repeat' first|refine st ?_|refine⟨λ_=>?_,λ_=>?_⟩|fail
   all_goals exact⟨rfl,rfl⟩
end Go.Proofs
end
section
namespace Go.Proofs
open Go.Bi
theorem C2D{K:List Kw}{p:Pl}(h:(C2 K p).2=0):(C2 K p).1.d=.sl (A5 (C2 K p).1.ks):=by
 obtain⟨o,ni,ins⟩:=p
 obtain⟨_,_,_,_,_,h6⟩:=Z9 h
 unfold Kw.d ng
 cases hk:(C2 K (.mk o ni ins)).1.ks with
 |nil=>rw[hk] at h6;simp at h6
 |cons a r=>simp[A5]
theorem D7B{K:List Kw}{p:Pl}(h:(C2 K p).2≠0):(C2 K p).1=K0:=by
 obtain⟨o,ni,ins⟩:=p
 rw[A5z] at h ⊢
 unfold ndN at h ⊢
 by_cases h1:J9 o.op<0
 ·rw[if_pos h1]
 rw[if_neg h1] at h ⊢
 by_cases h2:(ins.length:Int)=J9 o.op
 rotate_left
 ·rw[if_neg h2]
 rw[if_pos h2] at h ⊢
 by_cases h3:n0 (ins.map (C2 K))=0
 rotate_left
 ·rw[if_neg h3]
 rw[if_pos h3] at h ⊢
 unfold ndR at h ⊢
 by_cases h4:(J4 K o ((ins.map (C2 K)).map Prod.fst)).2=0
 ·rw[if_pos h4] at h ⊢
  by_cases h5:(J4 K o ((ins.map (C2 K)).map Prod.fst)).1.ks.length=0\/48<(J4 K o ((ins.map (C2 K)).map Prod.fst)).1.ks.length
  ·rw[if_pos h5]
  ·rw[if_neg h5] at h;exact absurd rfl h
 ·rw[if_neg h4]
abbrev ckO(din:D):List AO:=[.cells [.clo A0O [0,1]],.cells [.d din]]
theorem C4L(K:List Kw)(hK:K.length<=4294967296)(hKb:∀k∈K,k.ks.length<=4294967296)(din:D)(hin:A9 din (E7 K)):∀p:Pl,p.bk<=1073741824->
  B9 Tryz.prog A0O [p.av,.ptr 0 0,.ptr 1 0] (ckO din) (λr os=>r=.tup [.d (C2 K p).1.d,.d (eI (C2 K p).2)]/\os=ckO din):=by
 refine Pl.ind λo ni ins ih hb=>?_
 have hB:=Pl.bd hb
 have hI:=C6w o.op
 have hR:=λk hk hkb dkk hdk=>C6x K hK hKb din hin o ni ins hb k hk hkb dkk hdk
 have hqs:=@C2D K (.mk o ni ins)
 have hq:=A5z K o ni ins
 obtain⟨q,hqq⟩:∃q,q=C2 K (.mk o ni ins):=⟨_,rfl⟩
 rw[<- hqq] at hq hqs ⊢
 clear hqq
 obtain⟨xo,xn,xv,xm,xd,hav,_⟩:=Pl.cuto o ni ins
 rw[hav] at hR ⊢
 clear hav
 have hil:=hB.il
 have hsub:=hB.sub
 clear hB hb
 obtain⟨op,n,nk,ki,nr,rows,pred,nx,xs,ny,keys,na,aggs⟩:=o
 have hdi:A9 (ng ni (pL ins)) (pL ins):=C7
 obtain⟨dk,e1⟩:∃d,d=ng nk (A5 ki):=⟨_,rfl⟩
 obtain⟨dr,e2⟩:∃d,d=ng nr (B7 rows):=⟨_,rfl⟩
 obtain⟨dx,e3⟩:∃d,d=ng nx (xL xs):=⟨_,rfl⟩
 obtain⟨dy,e4⟩:∃d,d=ng ny (A5 keys):=⟨_,rfl⟩
 obtain⟨da,e5⟩:∃d,d=ng na (I0 aggs):=⟨_,rfl⟩
 obtain⟨di,e6⟩:∃d,d=ng ni (pL ins):=⟨_,rfl⟩
 have hR:∀(k:List Kw),(k.length:Int)=J9 op->(∀x∈k,x.ks.length<=48)->∀dkk,A9 dkk (E7 k)->∃kd,((J4 K ⟨op,n,nk,ki,nr,rows,pred,nx,xs,ny,keys,na,aggs⟩ k).2=0->A9 kd (A5 (J4 K ⟨op,n,nk,ki,nr,rows,pred,nx,xs,ny,keys,na,aggs⟩ k).1.ks))/\Bi.Pure Tryz.prog A0P [G3 op n dk dr xo xn xv xm xd dx dy da di,.d din,.d dkk] (.tup [.d kd,.d (eI (J4 K ⟨op,n,nk,ki,nr,rows,pred,nx,xs,ny,keys,na,aggs⟩ k).2)]):=by
  rw[e1,e2,e3,e4,e5,e6];exact hR
 show B9 Tryz.prog A0O [G3 op n (ng nk (A5 ki)) (ng nr (B7 rows)) xo xn xv xm xd (ng nx (xL xs)) (ng ny (A5 keys)) (ng na (I0 aggs)) (ng ni (pL ins)),.ptr 0 0,.ptr 1 0] (ckO din) _
 rw[<- e1,<- e2,<- e3,<- e4,<- e5,<- e6]
 rw[<- e6] at hdi
 obtain⟨o,ho⟩:∃o:Po,o=⟨op,n,nk,ki,nr,rows,pred,nx,xs,ny,keys,na,aggs⟩:=⟨_,rfl⟩
 rw[<- ho] at hR hq
 have hoo:o.op=op:=by rw[ho]
 clear e1 e2 e3 e4 e5 e6 ho
 unfold ndN at hq
 rw[hoo] at hq
 have hI:Bi.Pure Tryz.prog B1i [.d (eI op)] (.d (eI (J9 op))):=hI
 obtain⟨m,hm⟩:∃m,m=J9 op:=⟨_,rfl⟩
 rw[<- hm] at hI hR hq
 clear hm hoo
 have l1:=b5 ins
 have m1:=e9 ins
 have g1:=λi p=>@j6 ins i p
 obtain⟨es,hes⟩:∃z,z=pL ins:=⟨_,rfl⟩
 rw[<- hes] at hdi l1 m1 g1
 clear hes
 have r0:xv.k=xv.k:=rfl
 have r1:xv.s=xv.s:=rfl
 have r2:xm=xm:=rfl
 by_cases h1:m<0
 ·rw[if_pos h1] at hq
  subst hq
  clear hR g1 ih hqs
  refine B0C.goX A6 rfl ?_
  repeat' first|refine st ?_|((with_reducible apply A4);conv=>whnf)|refine⟨λ_=>?_,λ_=>?_⟩|fail
  all_goals exact⟨rfl,rfl⟩
 rw[if_neg h1] at hq
 by_cases h2:(ins.length:Int)=m
 rotate_left
 ·rw[if_neg h2] at hq
  subst hq
  have h3:¬m=(es.length:Int):=by omega
  clear hR g1 ih hqs
  refine B0C.goX A6 rfl ?_
  repeat' first|refine st ?_|((with_reducible apply A4);conv=>whnf)|refine⟨λ_=>?_,λ_=>?_⟩|fail
  all_goals first|exact⟨rfl,rfl⟩|(exfalso;omega)
 rw[if_pos h2] at hq
 have h3:m=(es.length:Int):=by omega
 obtain⟨rs,hrs⟩:∃z,z=ins.map (C2 K):=⟨_,rfl⟩
 have hrl:rs.length=ins.length:=by rw[hrs,D8]
 have hrg:∀i p,ins[i]?=some p->rs[i]?=some (C2 K p):=λi p h=>by rw[hrs,J1,h];rfl
 have hrb:∀x∈rs.map Prod.fst,x.ks.length<=48:=λx hx=>by
  obtain⟨y,hy,rfl⟩:=D7.1 hx
  rw[hrs] at hy
  obtain⟨p,_,rfl⟩:=D7.1 hy
  exact Z8 K p
 rw[<- hrs] at hq
 clear hrs
 refine B0C.goX A6 rfl ?_
 repeat' first|refine st ?_|((with_reducible apply A4);conv=>whnf)|refine⟨λ_=>?_,λ_=>?_⟩|fail
 refine U7 7 1 rfl rfl ?_
 refine L6 A6 D1k D03 (λ(i:Nat) (w:List Kw)=>[.arr 3 (E7 w).length,.d (eI i)]) (λi w=>[.cells [.clo A0O [0,1]],.cells [.d din],.cells [.d (eI op),.d (eI n),.d dk,.d dr,.d (eI xo),.d (eI xn),.d (eI xv.k),.d (eI xv.n),.d (.str xv.s),.d (.str xm),.d xd,.d dx,.d dy,.d da,.d di],.arr (E7 w) 1 0 (E7 w).isEmpty]) (λi w=>i<=ins.length/\w=(rs.take i).map Prod.fst/\n0 (rs.drop i)=n0 rs) (λi w=>ins.length-i) 0 [] rfl rfl rfl rfl (λ_ _ _=>⟨rfl,rfl⟩) rfl ⟨by omega,rfl,rfl⟩ ?_
 repeat' first|refine st ?_|((with_reducible apply A4);conv=>whnf)|refine⟨λ_=>?_,λ_=>?_⟩|fail
 intro i w ⟨i1,i2,i3⟩
 have hw1:=A3u w
 have hwm:=A3v w
 have hwl:w.length<=i:=by rw[i2];simp;omega
 have hbd:((E7 w).length+1)*24<=140737488355328:=by omega
 have happ:=λk:Kw=>show E7 (w++[k])=E7 w++[[k.d]] by simp[E7]
 have hne:=λk:Kw=>show(E7 (w++[k])).isEmpty=false by simp[E7]
 obtain⟨A,hA⟩:∃z,z=E7 w:=⟨_,rfl⟩
 rw[<- hA] at hw1 hwm hbd ⊢
 cases hi:ins[i]? with
 |some p=>
  have hlt:=(B4.1 hi).1
  have hil3:(i:Int)<es.length:=by omega
  have hg:=g1 i p hi
  have hC:=ih p (C3 hi) (hsub p (C3 hi))
  have hrx:=hrg i p hi
  have hfd:=C1u hrx
  have htk:(rs.take (i+1)).map Prod.fst=w++[(C2 K p).1]:=by rw[L8,hrx,A44,<- i2];rfl
  rw[i3] at hfd
  have hL:∀rest:List AO,B9 Tryz.prog A0O [p.av,.ptr 0 0,.ptr 1 0] (ckO din++rest) (λr os=>r=.tup [.d (C2 K p).1.d,.d (eI (C2 K p).2)]/\os=ckO din++rest):=λrest=>
   B9.pre hC rest (by
    intro a ha
    simp only[H2,U2,or_false] at ha
    rcases ha with rfl|rfl|rfl
    ·exact A08 _ _
    ·simp[AV.bnd2,AV.bnd1]
    ·simp[AV.bnd2,AV.bnd1]) (by
    intro o ho
    simp only[H2,U2,or_false] at ho
    rcases ho with rfl|rfl<;>simp[AO.bnd,AV.bnd1]) (by
    rintro r bs' ⟨rfl,rfl⟩
    refine⟨rfl,?_,λf=>rfl,rfl,rfl⟩
    intro o ho
    simp only[H2,U2,or_false] at ho
    rcases ho with rfl|rfl<;>simp[AO.bnd,AV.bnd1])
  obtain⟨op',n',dk',dr',xo',xn',xv',xm',xd',dx',dy',da',di',c1,c2⟩:=Pl.cut p
  have hg:es[((i:Nat):Int).toNat]?=some (K1 op' n' dk' dr' xo' xn' xv' xm' xd' dx' dy' da' di'):=by rw[<- c1];exact hg
  rw[c2] at hL
  obtain⟨⟨k,er⟩,hk⟩:∃z,z=C2 K p:=⟨_,rfl⟩
  rw[<- hk] at hL hfd htk
  dsimp only at hL hfd htk
  have happ:=happ k
  have hne:=hne k
  rw[<- hA] at happ
  obtain⟨kd,hkd⟩:∃d,d=k.d:=⟨_,rfl⟩
  rw[<- hkd] at hL happ
  clear hkd hA c1 c2 hi g1 ih hk hrg hR hrx hC hqs
  by_cases hr:er=0
  ·subst hr
   rw[if_pos rfl] at hfd
   repeat' first|refine st ?_|((with_reducible apply A4);conv=>whnf)|((with_reducible first|apply O8|apply O7);(·exact hL _);(try rintro _ _ ⟨rfl,rfl⟩))|((with_reducible apply O9);(·exact hL _))|refine⟨λ_=>?_,λ_=>?_⟩|fail
   exact⟨i+1,w++[k],by rw[happ];simp,rfl,by rw[hne,happ];simp,by omega,by omega,htk.symm,hfd.symm⟩
  ·rw[if_neg hr] at hfd
   rw[hfd,if_neg hr] at hq
   subst hq
   clear happ hne
   repeat' first|refine st ?_|((with_reducible apply A4);conv=>whnf)|((with_reducible first|apply O8|apply O7);(·exact hL _);(try rintro _ _ ⟨rfl,rfl⟩))|((with_reducible apply O9);(·exact hL _))|refine⟨λ_=>?_,λ_=>?_⟩|fail
   all_goals first|exact⟨rfl,rfl⟩|(exfalso;omega)
 |none=>
  have hge:=E9.1 hi
  have hil2:(es.length:Int)<=(i:Int):=by omega
  rw[List.drop_of_length_le (by omega)] at i3
  have i3:n0 rs=0:=i3.symm
  rw[H4 (by omega)] at i2
  rw[if_pos i3,<- i2] at hq
  obtain⟨kd,hkd,hRR⟩:=hR w (by rw[i2,D8];omega) (by rw[i2];exact hrb) (u7 (E7 w).isEmpty .nil (.sl (E7 w))) (by rw[show(u7 (E7 w).isEmpty .nil (.sl (E7 w)):D)=ng true (E7 w) by cases E7 w<;>rfl];exact C7)
  rw[<- hA] at hRR
  obtain⟨⟨k,er⟩,hk⟩:∃z,z=J4 K o w:=⟨_,rfl⟩
  rw[<- hk] at hRR hq hkd
  unfold ndR at hq
  dsimp only at hRR hq hkd
  have hkl:=F9 k.ks
  clear hk hi g1 ih hrg hR happ hne hA hrb
  by_cases hr:er=0
  ·subst hr
   rw[if_pos rfl] at hq
   have hsk:=hkd rfl
   obtain⟨ek,hek⟩:∃z,z=A5 k.ks:=⟨_,rfl⟩
   rw[<- hek] at hsk hkl
   by_cases hz:k.ks.length=0
   ·rw[if_pos (.inl hz)] at hq
    subst hq
    have hz2:(ek.length:Int)<1:=by omega
    clear hkd hek hqs
    repeat' first|refine st ?_|((with_reducible apply A4);conv=>whnf)|refine⟨λ_=>?_,λ_=>?_⟩|fail
    all_goals first|exact⟨rfl,rfl⟩|(exfalso;omega)
   ·by_cases hz2:48<k.ks.length
    ·rw[if_pos (.inr hz2)] at hq
     subst hq
     have hz3:¬(ek.length:Int)<1:=by omega
     have hz4:(48:Int)<(ek.length:Int):=by omega
     clear hkd hek hqs
     repeat' first|refine st ?_|((with_reducible apply A4);conv=>whnf)|refine⟨λ_=>?_,λ_=>?_⟩|fail
     all_goals first|exact⟨rfl,rfl⟩|(exfalso;omega)
    ·rw[if_neg (by omega)] at hq
     subst hq
     have hz3:¬(ek.length:Int)<1:=by omega
     have hz4:(ek.length:Int)<=48:=by omega
     have hqs:=hqs rfl
     have hqs:Kw.d (k,(0:Int)).1=.sl (A5 k.ks):=hqs
     have hkk:kd=.sl ek:=by
      rcases hsk with ⟨_,h⟩|h
      ·rw[h] at hz3;simp at hz3
      ·exact h
     rw[hqs,<- hek]
     subst hkk
     clear hkd hek hqs hsk
     repeat' first|refine st ?_|((with_reducible apply A4);conv=>whnf)|refine⟨λ_=>?_,λ_=>?_⟩|fail
     all_goals first|exact⟨rfl,rfl⟩|(exfalso;omega)
  ·rw[if_neg hr] at hq
   subst hq
   clear hkd hqs
   repeat' first|refine st ?_|((with_reducible apply A4);conv=>whnf)|refine⟨λ_=>?_,λ_=>?_⟩|fail
   all_goals first|exact⟨rfl,rfl⟩|(exfalso;omega)
theorem A5Z(K:List Kw)(hK:K.length<=4294967296)(hKb:∀k∈K,k.ks.length<=4294967296)(din:D)(hin:A9 din (E7 K))(p:Pl)(hb:p.bk<=1073741824) :
  Pure Tryz.prog B9t [p.av,.d din] (.tup [.d (C4 K p).1.d,.d (eI (C4 K p).2)]):=by
 have hD:=C6t p hb 24 (D3 _)
 have hN:=C4L K hK hKb din hin p hb
 have hsl:=@C2D K p
 have hln:=Z8 K p
 obtain⟨q,hq⟩:∃q,q=C4 K p:=⟨_,rfl⟩
 rw[<- hq]
 unfold C4 at hq
 have hF:∀c0:List AV,B9 Tryz.prog A0O [p.av,.ptr 2 0,.ptr 1 0] [.cells c0,.cells [.d din],.cells [.clo A0O [2,1]]] (λr os=>r=.tup [.d (C2 K p).1.d,.d (eI (C2 K p).2)]/\os=[.cells c0,.cells [.d din],.cells [.clo A0O [2,1]]]):=λc0=>by
  have:=B9.frame (K:=λr os=>r=.tup [.d (C2 K p).1.d,.d (eI (C2 K p).2)]/\os=[.cells c0,.cells [.d din],.cells [.clo A0O [2,1]]]) hN [2,1] [.cells c0,.cells [.d din],.cells [.clo A0O [2,1]]] rfl (by decide) (λi o h=>by
   match i,h with
   |0,h=>cases h;rfl
   |1,h=>cases h;rfl
   |i+2,h=>simp at h) (λa ha=>by
    simp only[H2,U2,or_false] at ha
    rcases ha with rfl|rfl|rfl
    ·exact A08 _ _
    ·simp[AV.bnd2,AV.bnd1]
    ·simp[AV.bnd2,AV.bnd1]) (λo ho=>by
    simp only[H2,U2,or_false] at ho
    rcases ho with rfl|rfl<;>simp[AO.bnd,AV.bnd1]) (by rintro r bs' ⟨rfl,rfl⟩;exact⟨rfl,rfl⟩)
  rw[H5,show mG (rn [2,1] [AO.cells c0,.cells [.d din],.cells [.clo A0O [2,1]]].length) p.av=p.av from A2P _ _] at this
  exact this
 obtain⟨op',n',dk',dr',xo',xn',xv',xm',xd',dx',dy',da',di',c1,c2⟩:=Pl.cut p
 rw[c2] at hD hF ⊢
 obtain⟨t,ht⟩:∃t,t=min (F5 p) (24+1):=⟨_,rfl⟩
 rw[<- ht] at hD
 obtain⟨⟨k,er⟩,hk⟩:∃z,z=C2 K p:=⟨_,rfl⟩
 have herr:=@D7B K p
 rw[<- hk] at hF hq hsl hln herr
 dsimp only at hF hsl hln herr
 have hkl:=F9 k.ks
 have hkm:=I1 k.ks
 by_cases h:24<F5 p
 ·rw[if_pos h] at hq
  subst hq
  have ht:(24:Int)<t:=by omega
  clear hk c1 c2 hsl hF herr
  refine B0B.go A6 rfl ?_
  repeat' first|refine st ?_|((with_reducible apply A4);conv=>whnf)|refine⟨λ_=>?_,λ_=>?_⟩|fail
  all_goals rfl
 ·rw[if_neg h] at hq
  subst hq
  have ht:¬(24:Int)<t:=by omega
  by_cases hr:er=0
  ·subst hr
   have hsl:=hsl rfl
   rw[hsl] at hF
   rw[show Kw.d (k,(0:Int)).1=.sl (A5 k.ks) from hsl]
   obtain⟨ek,hek⟩:∃z,z=A5 k.ks:=⟨_,rfl⟩
   rw[<- hek] at hF hkl hkm ⊢
   have hbd:ek.length*8<=140737488355328/\ek.length<=9223372036854775807:=by omega
   clear hk c1 c2 hek hsl herr
   refine B0B.go A6 rfl ?_
   repeat' first|refine st ?_|((with_reducible apply A4);conv=>whnf)|((with_reducible first|apply O8|apply O7);(·exact hF _);(try rintro _ _ ⟨rfl,rfl⟩))|((with_reducible apply O9);(·exact hF _))|refine⟨λ_=>?_,λ_=>?_⟩|fail
   all_goals first|rfl|(simp;rfl)
  ·have hk0:=herr hr
   subst hk0
   clear hk c1 c2 hsl herr
   refine B0B.go A6 rfl ?_
   repeat' first|refine st ?_|((with_reducible apply A4);conv=>whnf)|((with_reducible first|apply O8|apply O7);(·exact hF _);(try rintro _ _ ⟨rfl,rfl⟩))|((with_reducible apply O9);(·exact hF _))|refine⟨λ_=>?_,λ_=>?_⟩|fail
   all_goals rfl
end Go.Proofs
end
section
namespace Go.Proofs
open Go.Bi
abbrev po0(op n:Int)(pred:Ex):Po:=⟨op,n,true,[],true,[],pred,true,[],true,[],true,[]⟩
abbrev Q7(op n:Int)(pred:Ex)(ins:List Pl):Pl:=.mk (po0 op n pred) true ins
theorem A0h(op n xo xn:Int)(xv:Vl)(xm:List UInt8)(xl:Bool)(xa:List Ex)(ins:List Pl):(Q7 op n (.mk xo xn xv xm xl xa) ins).av=G3 op n .nil .nil xo xn xv xm (ng xl (xL xa)) .nil .nil .nil (ng true (pL ins)):=by
 rw[Pl.av_eq _ _ _ _ _ _ _ _ _ rfl];rfl
theorem B2G(op n xo xn:Int)(xv:Vl)(xm:List UInt8)(xl:Bool)(xa:List Ex)(ins:List Pl):(Q7 op n (.mk xo xn xv xm xl xa) ins).ds=K1 op n .nil .nil xo xn xv xm (ng xl (xL xa)) .nil .nil .nil (ng true (pL ins)):=by
 rw[Pl.ds_eq _ _ _ _ _ _ _ _ _ rfl];rfl
theorem C4V:Pure Tryz.prog B1d [.d .nil] (.d .nil):=by
 refine B4G.go A6 rfl ?_
 repeat' first|refine st ?_|((with_reducible apply A4);conv=>whnf)|refine⟨λ_=>?_,λ_=>?_⟩|fail
 all_goals rfl
theorem C4X:Pure Tryz.prog B1b [.d .nil] (.d .nil):=by
 refine B4B.go A6 rfl ?_
 repeat' first|refine st ?_|((with_reducible apply A4);conv=>whnf)|refine⟨λ_=>?_,λ_=>?_⟩|fail
 refine A2r 1 (u6 A6 ?_)
 repeat' first|refine st ?_|((with_reducible apply A4);conv=>whnf)|refine⟨λ_=>?_,λ_=>?_⟩|fail
 all_goals rfl
theorem C2n{g:FuncId}{din:D}{r:AV}{ds:List D}(h:B9 Tryz.prog g [.ptr 0 0,.agg (ds.map .d)] [.cells [.d din]] (λr' os'=>r'=r/\os'=[.cells [.d din]]))(hr:∀f,mA f r=r)(rest:List AO) :
  B9 Tryz.prog g [.ptr 0 0,.agg (ds.map .d)] ([.cells [.d din]]++rest) (λr' os'=>r'=r/\os'=[.cells [.d din]]++rest):=
 B9.pre h rest (by
  intro a ha
  simp only[H2,U2,or_false] at ha
  rcases ha with rfl|rfl
  ·simp[AV.bnd2,AV.bnd1]
  ·exact A08 _ _) (by
  intro o ho
  simp only[H2,U2,or_false] at ho
  subst ho;simp[AO.bnd,AV.bnd1]) (by
  rintro r' bs' ⟨rfl,rfl⟩
  refine⟨rfl,?_,hr,rfl,rfl⟩
  intro o ho
  simp only[H2,U2,or_false] at ho
  subst ho;simp[AO.bnd,AV.bnd1])
theorem B3N(g:FuncId)(Φ:Pl->Pl)(din:D)(op n:Int)(pred:Ex)(hpb:pred.bk<=1073741824)(ins:List Pl)(hil:ins.length<=1073741824)(hf:∀x∈ins,B9 Tryz.prog g [.ptr 0 0,x.av] [.cells [.d din]] (λr os=>r=(Φ x).av/\os=[.cells [.d din]])) :
  B9 Tryz.prog A2B [(Q7 op n pred ins).av,.bcl g 0] [.cells [.d din]] (λr os=>r=(Q7 op n (B0 0 pred) (ins.map Φ)).av/\os=[.cells [.d din]]):=by
 have hS:=A2v pred hpb 0
 obtain⟨xo,xn,xv,xm,xl,xa⟩:=pred
 obtain⟨e2,he2⟩:∃e,e=B0 0 (.mk xo xn xv xm xl xa):=⟨_,rfl⟩
 rw[<- he2] at hS ⊢
 clear he2
 obtain⟨yo,yn,yv,ym,yl,ya⟩:=e2
 rw[Ex.av_mk,Ex.av_mk] at hS
 rw[A0h,A0h]
 have hdi:A9 (ng true (pL ins)) (pL ins):=C7
 obtain⟨xd,hxd⟩:∃d,d=ng xl (xL xa):=⟨_,rfl⟩
 obtain⟨yd,hyd⟩:∃d,d=ng yl (xL ya):=⟨_,rfl⟩
 obtain⟨di,e6⟩:∃d,d=ng true (pL ins):=⟨_,rfl⟩
 rw[<- hxd,<- hyd] at hS
 rw[<- hxd,<- hyd,<- e6]
 rw[<- e6] at hdi
 clear hxd hyd e6
 have l1:=b5 ins
 have m1:=e9 ins
 have g1:=λi p=>@j6 ins i p
 obtain⟨es,hes⟩:∃z,z=pL ins:=⟨_,rfl⟩
 rw[<- hes] at hdi l1 m1 g1
 clear hes
 have r0:xv.k=xv.k:=rfl
 have r1:xv.s=xv.s:=rfl
 have r2:xm=xm:=rfl
 have r3:yv.s=yv.s:=rfl
 have r4:ym=ym:=rfl
 have hc1:=B3E
 have hc2:=C4V
 have hc3:=C4X
 refine B0x.goX A6 rfl ?_
 repeat' first|refine st ?_|((with_reducible apply A4);conv=>whnf)|refine⟨λ_=>?_,λ_=>?_⟩|fail
 refine A2r 1 (u6 A6 ?_)
 repeat' first|refine st ?_|((with_reducible apply A4);conv=>whnf)|refine⟨λ_=>?_,λ_=>?_⟩|fail
 refine A1U 3 14 15 rfl rfl rfl ?_
 refine K6 A6 B0N B0K (λ(i:Nat)=>[.d (eI i)]) (λi=>[.cells [.d din],.cells [.d (eI op),.d (eI n),.d .nil,.d .nil,.d (eI xo),.d (eI xn),.d (eI xv.k),.d (eI xv.n),.d (.str xv.s),.d (.str xm),.d xd,.d .nil,.d .nil,.d .nil,.d di],.cells [.d (eI 0),.d (eI 0),.d .nil,.d .nil,.d (eI 0),.d (eI 0),.d (eI 0),.d (eI 0),.d (.str []),.d (.str []),.d .nil,.d .nil,.d .nil,.d .nil,.d .nil],.cells [.d (eI op),.d (eI n),.d .nil,.d .nil,.d (eI yo),.d (eI yn),.d (eI yv.k),.d (eI yv.n),.d (.str yv.s),.d (.str ym),.d yd,.d .nil,.d .nil,.d .nil,.arr 8 (pL ((ins.take i).map Φ)).length],.hole,.hole,.hole,.hole,.arr (pL ((ins.take i).map Φ)) 15 0 (pL ((ins.take i).map Φ)).isEmpty]) (λi=>i<=ins.length) (λi=>ins.length-i) 0 rfl rfl rfl rfl (λ_ _=>⟨rfl,rfl⟩) rfl (by omega) ?_
 repeat' first|refine st ?_|((with_reducible apply A4);conv=>whnf)|refine⟨λ_=>?_,λ_=>?_⟩|fail
 intro i i1
 have hw1:(pL ((ins.take i).map Φ)).length=i:=by rw[b5,D8,M4];omega
 have hwm:=e9 ((ins.take i).map Φ)
 have hbd:((pL ((ins.take i).map Φ)).length+1)*248<=140737488355328:=by omega
 cases hx:ins[i]? with
 |some p=>
  have hlt:=(B4.1 hx).1
  have hilt:(i:Int)<es.length:=by omega
  have hg:=g1 i p hx
  have hL:=λrest=>C2n (hf p (C3 hx)) (λf=>R6 f _) rest
  have ht:pL ((ins.take (i+1)).map Φ)=pL ((ins.take i).map Φ)++[(Φ p).ds]:=by rw[L8,hx];simp[pL]
  obtain⟨A,hA⟩:∃z,z=pL ((ins.take i).map Φ):=⟨_,rfl⟩
  rw[<- hA] at hw1 hwm hbd ht ⊢
  obtain⟨op',n',dk',dr',xo',xn',xv',xm',xd',dx',dy',da',di',c1,c2⟩:=Pl.cut p
  obtain⟨op1,n1,dk1,dr1,xo1,xn1,xv1,xm1,xd1,dx1,dy1,da1,di1,c3,c4⟩:=Pl.cut (Φ p)
  have hg:es[((i:Nat):Int).toNat]?=some (K1 op' n' dk' dr' xo' xn' xv' xm' xd' dx' dy' da' di'):=by rw[<- c1];exact hg
  have hL:∀rest,B9 Tryz.prog g [.ptr 0 0,G3 op' n' dk' dr' xo' xn' xv' xm' xd' dx' dy' da' di'] ([.cells [.d din]]++rest) (λr' os'=>r'=G3 op1 n1 dk1 dr1 xo1 xn1 xv1 xm1 xd1 dx1 dy1 da1 di1/\os'=[.cells [.d din]]++rest):=λrest=>by rw[<- c2,<- c4];exact hL rest
  rw[c3] at ht
  clear g1 hx hA hf c1 c2 c3 c4 hS hc1 hc2 hc3
  repeat' first|refine st ?_|((with_reducible apply A4);conv=>whnf)|((with_reducible first|apply O8|apply O7);(·exact hL _);(try rintro _ _ ⟨rfl,rfl⟩))|((with_reducible apply O9);(·exact hL _))|refine⟨λ_=>?_,λ_=>?_⟩|fail
  exact⟨i+1,rfl,rfl,by rw[ht];simp,by omega,by omega⟩
 |none=>
  have hge:=E9.1 hx
  have hilt:(es.length:Int)<=i:=by omega
  rw[H4 hge] at hw1 hwm hbd ⊢
  obtain⟨A,hA⟩:∃z,z=pL (ins.map Φ):=⟨_,rfl⟩
  rw[<- hA] at hw1 hwm hbd ⊢
  clear g1 hx hA hf hS hc1 hc2 hc3
  repeat' first|refine st ?_|((with_reducible apply A4);conv=>whnf)|refine⟨λ_=>?_,λ_=>?_⟩|fail
  all_goals exact⟨by cases A<;>rfl,rfl⟩
end Go.Proofs
end
section
namespace Go.Proofs
open Go.Shelf
def Tryz.lays189_ren:Go.Shelf.Ren:=⟨fun|189=>122|125=>155|257=>154|128=>197|129=>198|294=>188|295=>189|296=>190|297=>191|298=>192|299=>193|216=>194|300=>195|301=>196|328=>219|329=>220|330=>221|331=>222|332=>223|215=>224|343=>234|n=>n,fun|28=>22|3=>3|46=>161|0=>0|51=>185|53=>187|4=>4|183=>178|182=>177|131=>168|5=>5|9=>9|218=>197|222=>201|228=>209|229=>117|n=>n,fun|n=>n⟩
theorem Tryz.lays189:Go.Proofs.Lays.n189 Tryz.prog Tryz.lays189_ren:={
 mixed:=by kernel_rfl
 f125:=Tryz.func155.trans (congrArg some (by kernel_rfl))
 f128:=Tryz.func197.trans (congrArg some (by kernel_rfl))
 f129:=Tryz.func198.trans (congrArg some (by kernel_rfl))
 f189:=Tryz.func122.trans (congrArg some (by kernel_rfl))
 f215:=Tryz.func224.trans (congrArg some (by kernel_rfl))
 f216:=Tryz.func194.trans (congrArg some (by kernel_rfl))
 f257:=Tryz.func154.trans (congrArg some (by kernel_rfl))
 f294:=Tryz.func188.trans (congrArg some (by kernel_rfl))
 f295:=Tryz.func189.trans (congrArg some (by kernel_rfl))
 f296:=Tryz.func190.trans (congrArg some (by kernel_rfl))
 f297:=Tryz.func191.trans (congrArg some (by kernel_rfl))
 f298:=Tryz.func192.trans (congrArg some (by kernel_rfl))
 f299:=Tryz.func193.trans (congrArg some (by kernel_rfl))
 f300:=Tryz.func195.trans (congrArg some (by kernel_rfl))
 f301:=Tryz.func196.trans (congrArg some (by kernel_rfl))
 f328:=Tryz.func219.trans (congrArg some (by kernel_rfl))
 f329:=Tryz.func220.trans (congrArg some (by kernel_rfl))
 f330:=Tryz.func221.trans (congrArg some (by kernel_rfl))
 f331:=Tryz.func222.trans (congrArg some (by kernel_rfl))
 f332:=Tryz.func223.trans (congrArg some (by kernel_rfl))
 f343:=Tryz.func234.trans (congrArg some (by kernel_rfl))
 t0:=Tryz.underlying0
 a0:=Tryz.isAgg0
 z0:=Tryz.sizeOf0
 v0:=Tryz.zeroValue0
 t3:=Tryz.underlying3
 a3:=Tryz.isAgg3
 z3:=Tryz.sizeOf3
 v3:=Tryz.zeroValue3
 t4:=Tryz.underlying4
 a4:=Tryz.isAgg4
 z4:=Tryz.sizeOf4
 v4:=Tryz.zeroValue4
 t5:=Tryz.underlying5
 a5:=Tryz.isAgg5
 z5:=Tryz.sizeOf5
 v5:=Tryz.zeroValue5
 t9:=Tryz.underlying9
 a9:=Tryz.isAgg9
 z9:=Tryz.sizeOf9
 v9:=Tryz.zeroValue9
 t28:=Tryz.underlying22
 a28:=Tryz.isAgg22
 z28:=Tryz.sizeOf22
 v28:=Tryz.zeroValue22
 t46:=Tryz.underlying161
 a46:=Tryz.isAgg161
 z46:=Tryz.sizeOf161
 v46:=Tryz.zeroValue161
 t51:=Tryz.underlying185
 a51:=Tryz.isAgg185
 z51:=Tryz.sizeOf185
 v51:=Tryz.zeroValue185
 t53:=Tryz.underlying187
 a53:=Tryz.isAgg187
 z53:=Tryz.sizeOf187
 v53:=Tryz.zeroValue187
 t131:=Tryz.underlying168
 a131:=Tryz.isAgg168
 z131:=Tryz.sizeOf168
 v131:=Tryz.zeroValue168
 t182:=Tryz.underlying177
 a182:=Tryz.isAgg177
 z182:=Tryz.sizeOf177
 v182:=Tryz.zeroValue177
 t183:=Tryz.underlying178
 a183:=Tryz.isAgg178
 z183:=Tryz.sizeOf178
 v183:=Tryz.zeroValue178
 t218:=Tryz.underlying197
 a218:=Tryz.isAgg197
 z218:=Tryz.sizeOf197
 v218:=Tryz.zeroValue197
 t222:=Tryz.underlying201
 a222:=Tryz.isAgg201
 z222:=Tryz.sizeOf201
 v222:=Tryz.zeroValue201
 t228:=Tryz.underlying209
 a228:=Tryz.isAgg209
 z228:=Tryz.sizeOf209
 v228:=Tryz.zeroValue209
 t229:=Tryz.underlying117
 a229:=Tryz.isAgg117
 z229:=Tryz.sizeOf117
 v229:=Tryz.zeroValue117}
def Tryz.laysNm220_ren:Go.Shelf.Ren:=⟨fun|20=>123|n=>n,fun|22=>22|3=>3|4=>4|0=>0|n=>n,fun|n=>n⟩
theorem Tryz.laysNm220:Go.Proofs.Lays2.n20 Tryz.prog Tryz.laysNm220_ren:={
 mixed:=by kernel_rfl
 f20:=Tryz.func123.trans (congrArg some (by kernel_rfl))
 t0:=Tryz.underlying0
 a0:=Tryz.isAgg0
 z0:=Tryz.sizeOf0
 v0:=Tryz.zeroValue0
 t3:=Tryz.underlying3
 a3:=Tryz.isAgg3
 z3:=Tryz.sizeOf3
 v3:=Tryz.zeroValue3
 t4:=Tryz.underlying4
 a4:=Tryz.isAgg4
 z4:=Tryz.sizeOf4
 v4:=Tryz.zeroValue4
 t22:=Tryz.underlying22
 a22:=Tryz.isAgg22
 z22:=Tryz.sizeOf22
 v22:=Tryz.zeroValue22
 i3:=by kernel_rfl}
end Go.Proofs
end
section
namespace Go.Proofs
open Go.Bi
theorem D5V:Bi.Enters Tryz.prog B1g:=⟨_,Tryz.func122,by kernel_rfl,by decide⟩
theorem D5U:Bi.Enters Tryz.prog B1e:=⟨_,Tryz.func123,by kernel_rfl,by decide⟩
def srt(zs:List Int):List Int:=zs.mergeSort λx y=>decide (x<=y)
theorem C3Q(zs:List Int):(srt zs).length=zs.length:=by simp[srt]
def C0H(zs:List Int):List Int:=Lib.compact zs++List.replicate (zs.length-(Lib.compact zs).length) 0
theorem C0h(n:Nat)(es:List (List D))(sz frz:Nat)(nl:Bool):(AO.arr es sz frz nl).bnd n:=by simp[AO.bnd]
theorem C6s(zs:List Int)(nl:Bool)(hz:zs.length<4611686018427387904){os:List AO}{id:Nat}(ho:os[id]?=some (.arr (A5 zs) 1 0 nl)) :
  B9 Tryz.prog B1g [.arr id (A5 zs).length] os (λr os'=>r=.tup []/\os'=os.set id (.arr (A5 (srt zs)) 1 0 nl)):=
 C2k (λid=>[.arr id (A5 zs).length]) (D9A Tryz.lays189 D5V zs nl hz) (λ_=>rfl) (λ_=>rfl) (λ_=>rfl) (λ_ _=>rfl) (by simp[AV.bnd2,AV.bnd1]) (C0h ..) ho
theorem C6r(zs:List Int)(nl:Bool)(hz:zs.length<=9223372036854775807){os:List AO}{id:Nat}(ho:os[id]?=some (.arr (A5 zs) 1 0 nl)) :
  B9 Tryz.prog B1e [.arr id (A5 zs).length] os (λr os'=>r=.d (if nl then .nil else .sl (A5 (Lib.compact zs)))/\os'=os.set id (.arr (A5 (C0H zs)) 1 (if nl then 0 else (Lib.compact zs).length) nl)):=
 C2k (λid=>[.arr id (A5 zs).length]) (D5w Tryz.laysNm220 D5U zs nl hz) (λ_=>rfl) (λ_=>rfl) (λ_=>rfl) (λ_ _=>rfl) (by simp[AV.bnd2,AV.bnd1]) (C0h ..) ho
mutual
def L5:Ex->List Int
 |.mk op n v nm nl args=>(if op=2 then [n] else [])++A7k args
def A7k:List Ex->List Int
 |[]=>[]
 |a::l=>L5 a++A7k l
end
theorem C3f:∀l,A7k l=l.flatMap L5
 |[]=>by simp[A7k]
 |a::l=>by simp[A7k,C3f l]
theorem A3N(op n:Int)(v:Vl)(nm:List UInt8)(nl:Bool)(args:List Ex):L5 (.mk op n v nm nl args)=(if op=2 then [n] else [])++args.flatMap L5:=by rw[L5,C3f]
theorem C1F{l:List Ex}{f:Ex->List Int}(h:∀a∈l,(f a).length<=a.bk):(l.flatMap f).length<=D6 (xL l):=by
 induction l with
 |nil=>simp
 |cons a l ih=>
  have h1:=h a (by simp)
  have h2:=ih λb hb=>h b (by simp[hb])
  rw[A41,H8]
  simp only[xL,H5,D6]
  unfold Ex.bk at h1
  unfold xL at h2
  omega
theorem A9u:∀e:Ex,(L5 e).length<=e.bk:=by
 refine Ex.ind λop n v nm nl args ih=>?_
 have hb:=Ex.bk_mk op n v nm nl args
 have:=C1F ih
 rw[A3N,H8]
 split<;>simp only[H9,l9]<;>omega
def own(op n:Int):List Int:=if op=2 then [n] else []
theorem D5N(a b:List Int):A5 (a++b)=A5 a++A5 b:=by simp[A5]
theorem C4M(op n:Int)(v:Vl)(nm:List UInt8)(d:D)(zs:List Int)(hz:zs.length<=4294967296) :
  B9 Tryz.prog A4P [eX op n v nm d,.ptr 0 0] [.cells [.arr 1 (A5 zs).length],.arr (A5 zs) 1 0 (A5 zs).isEmpty] (λr os=>r=.tup []/\os=[.cells [.arr 1 (A5 (zs++own op n)).length],.arr (A5 (zs++own op n)) 1 0 (A5 (zs++own op n)).isEmpty]):=by
 obtain⟨b,hb⟩:∃b,b=(A5 zs).isEmpty:=⟨_,rfl⟩
 rw[<- hb]
 have hl:=F9 zs
 unfold own
 by_cases h:op=2
 ·rw[if_pos h,D5N]
  have e1:(A5 zs++A5 [n]).isEmpty=false:=by simp[A5]
  rw[e1]
  refine B4w.goX A6 rfl ?_
  repeat' first|refine st ?_|refine⟨λ_=>?_,λ_=>?_⟩|fail
  all_goals exact⟨rfl,by simp[A5]⟩
 ·rw[if_neg h,U9,<- hb]
  refine B4w.goX A6 rfl ?_
  repeat' first|refine st ?_|refine⟨λ_=>?_,λ_=>?_⟩|fail
  all_goals exact⟨rfl,rfl⟩
theorem A74{α:Type}{x a b:α}(h:x∈[a,b]):x=a\/x=b:=by simpa using h
theorem C3b{g:FuncId}{ds:List D}{a:AV}(ha:a.bnd2 2){zs ys:List Int}(h:B9 Tryz.prog g [.agg (ds.map .d),a] [.cells [.arr 1 (A5 zs).length],.arr (A5 zs) 1 0 (A5 zs).isEmpty] (λr os=>r=.tup []/\os=[.cells [.arr 1 (A5 ys).length],.arr (A5 ys) 1 0 (A5 ys).isEmpty]))(rest:List AO) :
  B9 Tryz.prog g [.agg (ds.map .d),a] ([.cells [.arr 1 (A5 zs).length],.arr (A5 zs) 1 0 (A5 zs).isEmpty]++rest) (λr os=>r=.tup []/\os=[.cells [.arr 1 (A5 ys).length],.arr (A5 ys) 1 0 (A5 ys).isEmpty]++rest):=by
 refine B9.pre h rest (λx hx=>?_) (λo ho=>?_) ?_
 ·rcases A74 hx with rfl|rfl
  ·exact A08 _ _
  ·exact ha
 ·rcases A74 ho with rfl|rfl<;>simp[AO.bnd,AV.bnd1]
 ·rintro r bs' ⟨rfl,rfl⟩
  refine⟨rfl,λo ho=>?_,λf=>rfl,rfl,rfl⟩
  rcases A74 ho with rfl|rfl<;>simp[AO.bnd,AV.bnd1]
theorem D8Z{l:List Ex}{i:Nat}{x:Ex}(h:l[i]?=some x):(l.take (i+1)).flatMap L5=(l.take i).flatMap L5++L5 x:=by
 rw[L8,h];simp
theorem D8Y(l:List Ex)(i:Nat):((l.take i).flatMap L5).length<=D6 (xL l):=by
 have h1:((l.take i).flatMap L5).length<=(l.flatMap L5).length:=by
  conv=>rhs;rw[<- A45 i l,List.flatMap_append,H8]
  omega
 have h2:=C1F (l:=l) (f:=L5) (λa _=>A9u a)
 omega
theorem C3g:∀{l:List Ex}{i:Nat}{x:Ex},l[i]?=some x->((l.take i).flatMap L5).length+x.bk<=D6 (xL l)
 |[],i,x,h=>by simp at h
 |a::l,0,x,h=>by
  simp at h
  subst h
  simp only[xL,H5,D6,List.take_zero,List.flatMap_nil,l9]
  unfold Ex.bk
  omega
 |a::l,i+1,x,h=>by
  have:=C3g (l:=l) (i:=i) (x:=x) (by simpa using h)
  have h1:=A9u a
  rw[List.take_succ_cons,A41,H8]
  simp only[xL,H5,D6]
  unfold Ex.bk at *
  unfold xL at this
  omega
theorem C6F:∀e:Ex,e.bk<=1073741824->∀zs:List Int,zs.length+e.bk<=2147483648->B9 Tryz.prog A8o [e.av,.clo A4P [0]] [.cells [.arr 1 (A5 zs).length],.arr (A5 zs) 1 0 (A5 zs).isEmpty] (λr os=>r=.tup []/\os=[.cells [.arr 1 (A5 (zs++L5 e)).length],.arr (A5 (zs++L5 e)) 1 0 (A5 (zs++L5 e)).isEmpty]):=by
 refine Ex.ind λop n v nm nl args ih hb zs hz=>?_
 obtain⟨b1,b2,b3,b4⟩:=Ex.bk_bounds hb
 have hbm:=Ex.bk_mk op n v nm nl args
 have hC1:∀rest,B9 Tryz.prog A4P [eX op n v nm (ng nl (xL args)),.ptr 0 0] ([.cells [.arr 1 (A5 zs).length],.arr (A5 zs) 1 0 (A5 zs).isEmpty]++rest) (λr os=>r=.tup []/\os=[.cells [.arr 1 (A5 (zs++own op n)).length],.arr (A5 (zs++own op n)) 1 0 (A5 (zs++own op n)).isEmpty]++rest):=λrest=>
  C3b (ds:=T5 op n v nm (ng nl (xL args))) (by simp[AV.bnd2,AV.bnd1]) (C4M op n v nm _ zs (by omega)) rest
 rw[A3N,<- own,<- S6,Ex.av_mk]
 obtain⟨z1,hz1⟩:∃z,z=zs++own op n:=⟨_,rfl⟩
 have hz1l:z1.length<=zs.length+1:=by
  rw[hz1,H8]
  unfold own
  split<;>simp
 rw[<- hz1] at hC1 ⊢
 have h1:=P0 args
 have hm:=P2 args
 obtain⟨da,hda⟩:∃d,d=ng nl (xL args):=⟨_,rfl⟩
 have hsd:A9 da (xL args):=by rw[hda];exact C7
 rw[<- hda] at hC1 ⊢
 have r0:v.k=v.k:=rfl
 have r1:v.s=v.s:=rfl
 have r2:nm=nm:=rfl
 refine C8o.goX A6 rfl ?_
 obtain⟨e0,he0⟩:∃b,b=(A5 zs).isEmpty:=⟨_,rfl⟩
 rw[<- he0] at hC1 ⊢
 repeat' first|refine st ?_|((with_reducible first|apply O8|apply O7);(·exact hC1 _);(try rintro _ _ ⟨rfl,rfl⟩))|((with_reducible apply O9);(·exact hC1 _))|refine⟨λ_=>?_,λ_=>?_⟩|fail
 refine K6 A6 D1e C9X (λ(i:Nat)=>[.d (eI i)]) (λi=>[.cells [.arr 1 (A5 (z1++(args.take i).flatMap L5)).length],.arr (A5 (z1++(args.take i).flatMap L5)) 1 0 (A5 (z1++(args.take i).flatMap L5)).isEmpty]++[.cells [.d (eI op),.d (eI n),.d (eI v.k),.d (eI v.n),.d (.str v.s),.d (.str nm),.d da]]) (λi=>i<=args.length) (λi=>args.length-i) 0 rfl rfl rfl (by simp) (λ_ _=>⟨rfl,rfl⟩) rfl (N1 _) ?_
 repeat' first|refine st ?_|refine⟨λ_=>?_,λ_=>?_⟩|fail
 intro i h4
 have hrl:=D8Y args i
 cases hx:args[i]? with
 |some x=>
  have hlt:=(B4.1 hx).1
  have hgx:=Y1 hx
  have hxm:=C3 hx
  have hxb:J8 x.ds<=D6 (xL args):=A23 (D7.2 ⟨x,hxm,rfl⟩)
  have hxk:=Ex.bk_arg (op:=op) (n:=n) (v:=v) (name:=nm) (nl:=nl) hxm
  have hs:=D8Z hx
  obtain⟨t,ht⟩:∃t,t=z1++(args.take i).flatMap L5:=⟨_,rfl⟩
  have hi:=ih x hxm (b4 x hxm) t (by
   have h0:=C3g hx
   rw[ht,H8]
   omega)
  have hn:z1++(args.take (i+1)).flatMap L5=t++L5 x:=by rw[hs,ht,S6]
  rw[<- hn] at hi
  rw[<- ht]
  have hL:=λrest=>C3b (ds:=x.ds) (by simp[AV.bnd2,AV.bnd1]) hi rest
  obtain⟨e1,he1⟩:∃b,b=(A5 t).isEmpty:=⟨_,rfl⟩
  rw[<- he1] at hL ⊢
  obtain⟨o1,n1,v1,m1,l1,a1⟩:=x
  rw[Ex.ds_mk] at hgx hL
  repeat' first|refine st ?_|((with_reducible first|apply O8|apply O7);(·exact hL _);(try rintro _ _ ⟨rfl,rfl⟩))|((with_reducible apply O9);(·exact hL _))|refine⟨λ_=>?_,λ_=>?_⟩|fail
  exact⟨i+1,rfl,rfl,rfl,by omega,by omega⟩
 |none=>
  have hge:=E9.1 hx
  rw[H4 hge]
  repeat' first|refine st ?_|refine⟨λ_=>?_,λ_=>?_⟩|fail
  all_goals exact⟨rfl,rfl⟩
end Go.Proofs
end
section
namespace Go.Proofs
open Go.Bi
def s5(l:List Int):Prop:=l.Pairwise (·<·)
theorem C0d:∀{l m:List Int},s5 l->s5 m->(∀x,x∈l↔x∈m)->l=m
 |[],[],_,_,_=>rfl
 |[],b::m,_,_,h=>by have:=(h b).2 (by simp);simp at this
 |a::l,[],_,_,h=>by have:=(h a).1 (by simp);simp at this
 |a::l,b::m,h1,h2,h=>by
  have g1:=s7.1 h1
  have g2:=s7.1 h2
  have hab:a=b:=by
   have ha:=(h a).1 (by simp)
   have hb:=(h b).2 (by simp)
   rcases H2.1 ha with e|ha
   ·exact e
   ·rcases H2.1 hb with e|hb
    ·exact e.symm
    ·have q1:=g1.1 b hb
     have q2:=g2.1 a ha
     omega
  subst hab
  congr 1
  refine C0d g1.2 g2.2 λx=>⟨λhx=>?_,λhx=>?_⟩
  ·have q:=g1.1 x hx
   rcases H2.1 ((h x).1 (I2 _ hx)) with e|hx'
   ·omega
   ·exact hx'
  ·have q:=g2.1 x hx
   rcases H2.1 ((h x).2 (I2 _ hx)) with e|hx'
   ·omega
   ·exact hx'
theorem C0V(d:Array Int)(hs:∀i j:Nat,i<=j->j<d.size->d[i]!<=d[j]!):∀m,m<=d.size->s5 (Lib.compactUpTo d m)/\∀x,x∈Lib.compactUpTo d m↔∃j,j<m/\d[j]! = x
 |0,_=>by
  refine⟨by simp[Lib.compactUpTo,s5],λx=>?_⟩
  simp[Lib.compactUpTo]
 |m+1,hm=>by
  obtain⟨h1,h2⟩:=C0V d hs m (by omega)
  rw[Lib.compactUpTo_succ]
  cases hk:Lib.keeps d m with
  |true=>
   rw[if_pos rfl]
   have hk':m=0\/d[m]!≠d[m-1]!:=of_decide_eq_true hk
   constructor
   ·refine A66.2 ⟨h1,by simp,λx hx y hy=>?_⟩
    simp at hy
    subst hy
    obtain⟨j,hj,rfl⟩:=(h2 x).1 hx
    have q1:=hs j (m-1) (by omega) (by omega)
    have q2:=hs (m-1) m (by omega) (by omega)
    rcases hk' with h0|hne
    ·omega
    ·omega
   ·intro x
    rw[K8,h2]
    constructor
    ·rintro(⟨j,hj,e⟩|hx)
     ·exact⟨j,by omega,e⟩
     ·simp at hx;exact⟨m,by omega,hx.symm⟩
    ·rintro⟨j,hj,e⟩
     rcases B1k.1 hj with h|rfl
     ·exact .inl ⟨j,h,e⟩
     ·exact .inr (by simp[e])
  |false=>
   rw[if_neg (by decide),U9]
   have hk':¬(m=0\/d[m]!≠d[m-1]!):=of_decide_eq_false hk
   refine⟨h1,λx=>?_⟩
   rw[h2]
   constructor
   ·rintro⟨j,hj,e⟩;exact⟨j,by omega,e⟩
   ·rintro⟨j,hj,e⟩
    rcases B1k.1 hj with h|rfl
    ·exact⟨j,h,e⟩
    ·have q1:¬j=0:=λe=>hk' (.inl e)
     have q2:d[j]! = d[j-1]!:=Classical.byContradiction λe=>hk' (.inr e)
     exact⟨j-1,by omega,by rw[<- q2];exact e⟩
theorem C0X(zs:List Int):s5 (Lib.compact (srt zs))/\∀x,x∈Lib.compact (srt zs)↔x∈zs:=by
 have hp:(srt zs).Pairwise λa b=>a<=b:=by
  have:=List.pairwise_mergeSort (le:=λx y:Int=>decide (x<=y)) (by intro a b c h1 h2;simp at *;omega) (by intro a b;simp;omega) zs
  refine this.imp λh=>?_
  simpa using h
 have hsz:(srt zs).toArray.size=(srt zs).length:=by simp
 have hget:∀i,i<(srt zs).length->(srt zs).toArray[i]! = (srt zs).getD i 0:=by
  intro i hi
  rw[getElem!_pos _ i (by simpa using hi),I4,F4 hi]
  simp
 have hs:∀i j:Nat,i<=j->j<(srt zs).toArray.size->(srt zs).toArray[i]!<=(srt zs).toArray[j]!:=by
  intro i j hij hj
  rw[hsz] at hj
  rw[hget i (by omega),hget j hj]
  rcases Nat.lt_or_ge i j with h|h
  ·have:=List.pairwise_iff_getElem.1 hp i j (by omega) hj h
   rw[I4,I4,F4 (show i<_ by omega),F4 hj]
   exact this
  ·obtain rfl:i=j:=by omega
   exact A0q _
 obtain⟨h1,h2⟩:=C0V (srt zs).toArray hs (srt zs).length (by simp)
 refine⟨h1,λx=>?_⟩
 unfold Lib.compact
 rw[h2]
 have hmem:x∈srt zs↔x∈zs:=by unfold srt;exact List.mem_mergeSort
 rw[<- hmem,List.mem_iff_getElem?]
 constructor
 ·rintro⟨j,hj,e⟩
  refine⟨j,?_⟩
  rw[hget j hj,I4,F4 hj] at e
  rw[F4 hj]
  exact congrArg some e
 ·rintro⟨j,e⟩
  have hj:=(B4.1 e).1
  refine⟨j,hj,?_⟩
  rw[hget j hj,I4,e];rfl
def T2(e:Ex):List Int:=Lib.compact (srt (L5 e))
def A3p(e:Ex):D:=if (A5 (L5 e)).isEmpty then .nil else .sl (A5 (T2 e))
theorem B1J(e:Ex):s5 (T2 e):=(C0X (L5 e)).1
theorem A8M(e:Ex)(x:Int):x∈T2 e↔x∈L5 e:=(C0X (L5 e)).2 x
theorem A58(e:Ex):(T2 e).length<=e.bk:=by
 have h1:=C0W (srt (L5 e))
 have h2:=C3Q (L5 e)
 have h3:=A9u e
 unfold T2
 omega
theorem C0U(e:Ex):A9 (A3p e) (A5 (T2 e)):=by
 unfold A3p
 split
 ·rename_i h
  have:L5 e=[]:=by
   cases hx:L5 e with
   |nil=>rfl
   |cons a l=>rw[hx] at h;cases h
  refine .inl ⟨rfl,?_⟩
  have hc:T2 e=[]:=by
   rw[List.eq_nil_iff_forall_not_mem]
   intro x hx
   rw[A8M,this] at hx
   cases hx
  rw[hc];rfl
 ·exact .inr rfl
theorem B3H(e:Ex)(he:e.bk<=1073741824):Pure Tryz.prog B9b [e.av] (.d (A3p e)):=by
 have hv:=C6F e he [] (by simp;omega)
 rw[A0M] at hv
 have hrl:=A9u e
 unfold A3p T2
 obtain⟨zs,hzs⟩:∃z,z=L5 e:=⟨_,rfl⟩
 rw[<- hzs] at hv hrl ⊢
 have hb:∀ds:List D,B9 Tryz.prog A8o [.agg (ds.map .d),.clo A4P [0]] [.cells [.arr 1 0],.arr [] 1 0 true] (λr os=>r=.tup []/\os=[.cells [.arr 1 (A5 zs).length],.arr (A5 zs) 1 0 (A5 zs).isEmpty])->∀E:List AV,B9 Tryz.prog A8o [.agg (ds.map .d),.clo A4P [1]] [.cells E,.cells [.d .nil]] (λr os=>r=.tup []/\os=[.cells E,.cells [.arr 2 (A5 zs).length],.arr (A5 zs) 1 0 (A5 zs).isEmpty]):=by
  intro ds hE E
  refine B9.nilc 1 0 1 rfl (cs:=[.d .nil]) rfl rfl ?_
  have:=B9.frame (K:=λr os=>r=.tup []/\os=[.cells E,.cells [.arr 2 (A5 zs).length],.arr (A5 zs) 1 0 (A5 zs).isEmpty]) hE [1,2] [.cells E,.cells [.arr 2 0],.arr [] 1 0 true] rfl (by decide) (λi o h=>by
   match i,h with
   |0,h=>cases h;rfl
   |1,h=>cases h;rfl
   |i+2,h=>simp at h) (λa ha=>by
    rcases A74 ha with rfl|rfl
    ·exact A08 _ _
    ·simp[AV.bnd2,AV.bnd1]) (λo ho=>by
    rcases A74 ho with rfl|rfl<;>simp[AO.bnd,AV.bnd1]) (by rintro r bs' ⟨rfl,rfl⟩;exact⟨rfl,rfl⟩)
  rw[H5,H5,V7,A2P] at this
  exact this
 have hB:=hb e.ds hv
 obtain⟨op,n,v,nm,nl,args⟩:=e
 rw[Ex.ds_mk] at hB
 rw[Ex.av_mk]
 obtain⟨b,hbb⟩:∃b,b=(A5 zs).isEmpty:=⟨_,rfl⟩
 rw[<- hbb] at hB ⊢
 have s1:∀(os:List AO) (id:Nat),os[id]?=some (.arr (A5 zs) 1 0 b)->B9 Tryz.prog B1g [.arr id (A5 zs).length] os (λr os'=>r=.tup []/\os'=os.set id (.arr (A5 (srt zs)) 1 0 b)):=λos id ho=>C6s zs b (by omega) ho
 have hsl:=C3Q zs
 have hle:(A5 zs).length=(A5 (srt zs)).length:=by rw[F9,F9,hsl]
 have s2:∀(os:List AO) (id:Nat),os[id]?=some (.arr (A5 (srt zs)) 1 0 b)->B9 Tryz.prog B1e [.arr id (A5 zs).length] os (λr os'=>r=.d (if b then .nil else .sl (A5 (Lib.compact (srt zs))))/\os'=os.set id (.arr (A5 (C0H (srt zs))) 1 (if b then 0 else (Lib.compact (srt zs)).length) b)):=λos id ho=>by rw[hle];exact C6r (srt zs) b (by omega) ho
 refine C88.go A6 rfl ?_
 cases b with
 |true=>
  repeat' first|(with_reducible apply B2i)|refine st ?_|((with_reducible first|apply O8|apply O7);(·first|exact hB _|exact s1 _ _ rfl|exact s2 _ _ rfl);(try rintro _ _ ⟨rfl,rfl⟩))|((with_reducible apply O9);(·first|exact hB _|exact s1 _ _ rfl|exact s2 _ _ rfl))|refine⟨λ_=>?_,λ_=>?_⟩|fail
  all_goals rfl
 |false=>
  repeat' first|(with_reducible apply B2i)|refine st ?_|((with_reducible first|apply O8|apply O7);(·first|exact hB _|exact s1 _ _ rfl|exact s2 _ _ rfl);(try rintro _ _ ⟨rfl,rfl⟩))|((with_reducible apply O9);(·first|exact hB _|exact s1 _ _ rfl|exact s2 _ _ rfl))|refine⟨λ_=>?_,λ_=>?_⟩|fail
  all_goals rfl
end Go.Proofs
end
