/- Texts of this claim, joined. No condition. -/
import Derived.Test.YtfnaleemmeejcaaGreatQ6
import Derived.Shelf.Sort.Plain
import Derived.Ground.Names2Prog
import Derived.Shelf.Slices.CompactI
import Derived.Test.YtfnaleemmeejcaaGreatProg
set_option linter.unusedSimpArgs false
set_option linter.unusedVariables false
set_option maxRecDepth 10000
set_option maxHeartbeats 4000000
section
namespace Go.Proofs
open Go.Bi
theorem E2v(nk:Bool)(ki:List Int)(rows:List Rw):(vaF nk ki rows).2=vaE ki rows:=by
 unfold vaF vaE
 by_cases c1:4096<rows.length
 ·rw[if_pos c1,if_pos c1]
 ·rw[if_neg c1,if_neg c1]
  cases c2:ki.all Z7 with
  |false=>rfl
  |true=>
   rw[if_pos rfl,if_pos rfl]
   cases c3:rows.all (λr=>Q4 r.vs ki)<;>rfl
theorem D8w(a b:Kw):(if a.ks.length=b.ks.length then (if a.ks=b.ks then (a,(0:Int)) else (J4,7)) else (J4,13)).2=eqE a.ks b.ks:=by
 unfold eqE
 by_cases c1:a.ks.length=b.ks.length
 ·rw[if_pos c1,if_pos c1]
  by_cases c2:a.ks=b.ks
  ·rw[if_pos c2,if_pos c2]
  ·rw[if_neg c2,if_neg c2]
 ·rw[if_neg c1,if_neg c1]
theorem C7T(K:List Kw)(hK:K.length<=4294967296)(hKb:∀k∈K,k.ks.length<=4294967296)(din:D)(hin:B0 din (E6 K))(o:Po)(ni:Bool)(ins:List Pl)(hb:(Pl.mk o ni ins).bk<=1073741824)(k:List Kw)(hk:(k.length:Int)=J8 o.op)(hkb:∀x∈k,x.ks.length<=48)(dkk:D)(hdk:B0 dkk (E6 k)) :
  ∃kd,((I1 K o k).2=0->B0 kd (A5 (I1 K o k).1.ks))/\Pure Tryz.prog A16 [(Pl.mk o ni ins).av,.d din,.d dkk] (.tup [.d kd,.d (eI (I1 K o k).2)]):=by
 have hB:=Pl.bd hb
 obtain⟨xo,xn,xv,xm,xd,hav,hpa⟩:=Pl.cuto o ni ins
 rw[hav]
 clear hav hb
 obtain⟨op,n,nk,ki,nr,rows,pred,nx,xs,ny,keys,na,aggs⟩:=o
 have hki:=hB.ki
 have hrl:=hB.nr
 have hrb:=hB.row
 have hpb:=hB.pred
 have hxl:=hB.xs
 have hxb:=hB.xb
 have hyl:=hB.keys
 have hal:=hB.aggs
 clear hB
 dsimp only at hki hrl hrb hpb hxl hxb hyl hal hpa hk
 have hva:=λdx dy da di=>C7W nk ki hki _ rfl rows hrl hrb (ng nr (B6 rows)) C7 op n xo xn xv xm xd dx dy da di
 have hpj:=λ(ks:List Int) (h:ks.length<=1073741824) dk hdk=>C7V ks h dk hdk xs hxl hxb (ng nx (xL xs)) C7
 have hgr:=λ(ks:List Int) (h:ks.length<=1073741824) dk hdk=>C7R ks h dk hdk keys hyl (ng ny (A5 keys)) C7 aggs hal (ng na (H4 aggs)) C7
 have hpr:=λ(ks:List Int) (h:ks.length<=1073741824) dk hdk=>C7U ks h dk hdk pred hpb
 rw[hpa] at hpr
 show ∃kd,_/\Bi.Pure Tryz.prog A16 [F3 op n (ng nk (A5 ki)) (ng nr (B6 rows)) xo xn xv xm xd (ng nx (xL xs)) (ng ny (A5 keys)) (ng na (H4 aggs)) (ng ni (pL ins)),.d din,.d dkk] _
 obtain⟨q,hq⟩:∃q,q=I1 K ⟨op,n,nk,ki,nr,rows,pred,nx,xs,ny,keys,na,aggs⟩ k:=⟨_,rfl⟩
 rw[<- hq]
 unfold I1 at hq
 dsimp only at hq
 obtain⟨dk,e1⟩:∃d,d=ng nk (A5 ki):=⟨_,rfl⟩
 obtain⟨dr,e2⟩:∃d,d=ng nr (B6 rows):=⟨_,rfl⟩
 obtain⟨dx,e3⟩:∃d,d=ng nx (xL xs):=⟨_,rfl⟩
 obtain⟨dy,e4⟩:∃d,d=ng ny (A5 keys):=⟨_,rfl⟩
 obtain⟨da,e5⟩:∃d,d=ng na (H4 aggs):=⟨_,rfl⟩
 obtain⟨di,e6⟩:∃d,d=ng ni (pL ins):=⟨_,rfl⟩
 rw[<- e1,<- e2] at hva
 rw[<- e3] at hpj
 rw[<- e4,<- e5] at hgr
 rw[<- e1,<- e2,<- e3,<- e4,<- e5,<- e6]
 have hva:=hva dx dy da di
 have hskd:B0 dk (A5 ki):=by rw[e1];exact C7
 clear e1 e2 e3 e4 e5 e6 hrl hrb hpb hxl hxb hyl hal hki hpa
 have l1:=A3U k
 have m1:=A3V k
 have hops:=A5H op
 have hg0:0<k.length->∃a,k.getD 0 J4=a/\a.ks.length<=48/\(E6 k)[(0:Int).toNat]?=some [a.d]:=λh=>by
  obtain⟨a,ha⟩:∃a,k[0]?=some a:=⟨_,F1 h⟩
  exact⟨a,by rw[H6,ha];rfl,hkb a (C3 ha),A5x ha⟩
 have hg1:1<k.length->∃a,k.getD 1 J4=a/\a.ks.length<=48/\(E6 k)[(1:Int).toNat]?=some [a.d]:=λh=>by
  obtain⟨a,ha⟩:∃a,k[1]?=some a:=⟨_,F1 h⟩
  exact⟨a,by rw[H6,ha];rfl,hkb a (C3 ha),A5x ha⟩
 obtain⟨es,hes⟩:∃z,z=E6 k:=⟨_,rfl⟩
 rw[<- hes] at hdk l1 m1 hg0 hg1
 clear hes hkb
 rcases hops with ⟨rfl,hn⟩|⟨rfl,hn⟩|⟨rfl,hn⟩|⟨rfl,hn⟩|⟨rfl,hn⟩|⟨rfl,hn⟩|⟨rfl,hn⟩|⟨rfl,hn⟩|⟨rfl,hn⟩|⟨rfl,hn⟩|⟨rfl,hn⟩|⟨⟨o1,o2,o3,o4,o5,o6,o7,o8,o9,o10,o11⟩,hn⟩
 all_goals rw[hn] at hk
 ·have hq:q=scF K n:=hq
  clear hva hpj hgr hpr hg0 hg1
  have l2:=A3U K
  have m2:=A3V K
  have g2:=λi k=>@A5x K i k
  obtain⟨fs,hfs⟩:∃z,z=E6 K:=⟨_,rfl⟩
  rw[<- hfs] at hin l2 m2 g2
  clear hfs
  unfold scF at hq
  by_cases h1:n<0
  ·rw[if_pos (.inl h1)] at hq
   subst hq
   clear g2 hKb
   refine⟨.nil,(by intro h;cases h),?_⟩
   refine A1A.go A6 rfl ?_
   repeat' first|refine st ?_|((with_reducible apply A4);conv=>whnf)|refine⟨λ_=>?_,λ_=>?_⟩|fail
   all_goals first|rfl|(exfalso;omega)
  by_cases h2:(K.length:Int)<=n
  ·rw[if_pos (.inr h2)] at hq
   subst hq
   clear g2 hKb
   refine⟨.nil,(by intro h;cases h),?_⟩
   refine A1A.go A6 rfl ?_
   repeat' first|refine st ?_|((with_reducible apply A4);conv=>whnf)|refine⟨λ_=>?_,λ_=>?_⟩|fail
   all_goals first|rfl|(exfalso;omega)
  rw[if_neg (by omega)] at hq
  obtain⟨k',hk'⟩:∃k,K[n.toNat]?=some k:=⟨_,F1 (by omega)⟩
  have hg:=g2 _ k' hk'
  have hkd:K.getD n.toNat J4=k':=by rw[H6,hk'];rfl
  rw[hkd] at hq
  have hC:=B4S k'.ks (hKb k' (C3 hk')) k'.d C7
  have hsd:B0 k'.d (A5 k'.ks):=C7
  have h3:n<fs.length:=by omega
  obtain⟨d,hd⟩:∃d,d=k'.d:=⟨_,rfl⟩
  rw[<- hd] at hg hC hsd
  cases hb:k'.ks.all Z7 with
  |false=>
   rw[hb] at hC hq
   rw[if_neg (by simp)] at hq
   subst hq
   clear g2 hKb hkd hk' hd
   refine⟨.nil,(by intro h;cases h),?_⟩
   refine A1A.go A6 rfl ?_
   repeat' first|refine st ?_|((with_reducible apply A4);conv=>whnf)|refine⟨λ_=>?_,λ_=>?_⟩|fail
   all_goals rfl
  |true=>
   rw[hb] at hC hq
   rw[if_pos rfl] at hq
   subst hq
   refine⟨d,λ_=>hsd,?_⟩
   show Bi.Pure Tryz.prog A16 [F3 1 n dk dr xo xn xv xm xd dx dy da di,.d din,.d dkk] (.tup [.d d,.d (eI 0)])
   clear g2 hKb hkd hk' hd
   refine A1A.go A6 rfl ?_
   repeat' first|refine st ?_|((with_reducible apply A4);conv=>whnf)|refine⟨λ_=>?_,λ_=>?_⟩|fail
   all_goals rfl
 ·have hq:q=vaF nk ki rows:=hq
  have hqe:q.2=vaE ki rows:=by rw[hq];exact E2v nk ki rows
  have hqk:q.2=0->q.1.ks=ki:=by
   rw[hq];unfold vaF
   intro h
   split at h
   ·cases h
   split at h
   ·split at h
    ·rename_i c1 c2 c3;rw[if_neg c1,if_pos c2,if_pos c3]
    ·cases h
   ·cases h
  rw[<- hqe] at hva
  clear hq hqe hpj hgr hpr hg0 hg1
  obtain⟨⟨qn,qk⟩,qe⟩:=q
  dsimp only at hqk hva
  refine⟨dk,λh=>by rw[hqk h];exact hskd,?_⟩
  show Bi.Pure Tryz.prog A16 [F3 2 n dk dr xo xn xv xm xd dx dy da di,.d din,.d dkk] (.tup [.d dk,.d (eI qe)])
  refine A1A.go A6 rfl ?_
  repeat' first|refine st ?_|((with_reducible apply A4);conv=>whnf)|refine⟨λ_=>?_,λ_=>?_⟩|fail
  all_goals rfl
 ·obtain⟨a,ha,hal,hg⟩:=hg0 (by omega)
  rw[ha] at hq
  have hq:q=(a,N4 a.ks pred):=hq
  have hP:=hpr a.ks (by omega) a.d C7
  have h0:(0:Int)<es.length:=by omega
  have hsd:B0 a.d (A5 a.ks):=C7
  obtain⟨ad,had⟩:∃d,d=a.d:=⟨_,rfl⟩
  rw[<- had] at hP hg hsd
  subst hq
  refine⟨ad,λ_=>hsd,?_⟩
  show Bi.Pure Tryz.prog A16 [F3 3 n dk dr xo xn xv xm xd dx dy da di,.d din,.d dkk] (.tup [.d ad,.d (eI (N4 a.ks pred))])
  obtain⟨pe,hpe⟩:∃d,d=N4 a.ks pred:=⟨_,rfl⟩
  rw[<- hpe] at hP ⊢
  clear hva hpj hgr hpr hg0 hg1 had hpe ha
  refine A1A.go A6 rfl ?_
  repeat' first|refine st ?_|((with_reducible apply A4);conv=>whnf)|refine⟨λ_=>?_,λ_=>?_⟩|fail
  all_goals rfl
 ·obtain⟨a,ha,hal,hg⟩:=hg0 (by omega)
  rw[ha] at hq
  have hq:q=(⟨true,(G6 a.ks xs).1⟩,(G6 a.ks xs).2):=hq
  have hP:=hpj a.ks (by omega) a.d C7
  have h0:(0:Int)<es.length:=by omega
  obtain⟨ad,had⟩:∃d,d=a.d:=⟨_,rfl⟩
  rw[<- had,A2J] at hP
  rw[<- had] at hg
  subst hq
  refine⟨ng true (A5 (G6 a.ks xs).1),λ_=>C7,?_⟩
  show Bi.Pure Tryz.prog A16 [F3 4 n dk dr xo xn xv xm xd dx dy da di,.d din,.d dkk] (.tup [.d (ng true (A5 (G6 a.ks xs).1)),.d (eI (G6 a.ks xs).2)])
  obtain⟨qd,hqd⟩:∃d,d=ng true (A5 (G6 a.ks xs).1):=⟨_,rfl⟩
  obtain⟨qe,hqe⟩:∃d,d=(G6 a.ks xs).2:=⟨_,rfl⟩
  rw[<- hqd,<- hqe] at hP ⊢
  clear hva hpj hgr hpr hg0 hg1 had hqd hqe ha
  refine A1A.go A6 rfl ?_
  repeat' first|refine st ?_|((with_reducible apply A4);conv=>whnf)|refine⟨λ_=>?_,λ_=>?_⟩|fail
  all_goals rfl
 ·obtain⟨a,ha,hal,hg⟩:=hg0 (by omega)
  rw[ha] at hq
  have hq:q=(a,0):=hq
  have h0:(0:Int)<es.length:=by omega
  have hsd:B0 a.d (A5 a.ks):=C7
  obtain⟨ad,had⟩:∃d,d=a.d:=⟨_,rfl⟩
  rw[<- had] at hg hsd
  subst hq
  refine⟨ad,λ_=>hsd,?_⟩
  show Bi.Pure Tryz.prog A16 [F3 10 n dk dr xo xn xv xm xd dx dy da di,.d din,.d dkk] (.tup [.d ad,.d (eI 0)])
  clear hva hpj hgr hpr hg0 hg1 had ha
  refine A1A.go A6 rfl ?_
  repeat' first|refine st ?_|((with_reducible apply A4);conv=>whnf)|refine⟨λ_=>?_,λ_=>?_⟩|fail
  all_goals rfl
 ·obtain⟨a,ha,hal,hg⟩:=hg0 (by omega)
  rw[ha] at hq
  have hq:q=(⟨true,(Q6 a.ks keys aggs).1⟩,(Q6 a.ks keys aggs).2):=hq
  have hP:=hgr a.ks (by omega) a.d C7
  have h0:(0:Int)<es.length:=by omega
  obtain⟨ad,had⟩:∃d,d=a.d:=⟨_,rfl⟩
  rw[<- had,A2J] at hP
  rw[<- had] at hg
  subst hq
  refine⟨ng true (A5 (Q6 a.ks keys aggs).1),λ_=>C7,?_⟩
  show Bi.Pure Tryz.prog A16 [F3 11 n dk dr xo xn xv xm xd dx dy da di,.d din,.d dkk] (.tup [.d (ng true (A5 (Q6 a.ks keys aggs).1)),.d (eI (Q6 a.ks keys aggs).2)])
  obtain⟨qd,hqd⟩:∃d,d=ng true (A5 (Q6 a.ks keys aggs).1):=⟨_,rfl⟩
  obtain⟨qe,hqe⟩:∃d,d=(Q6 a.ks keys aggs).2:=⟨_,rfl⟩
  rw[<- hqd,<- hqe] at hP ⊢
  clear hva hpj hgr hpr hg0 hg1 had hqd hqe ha
  refine A1A.go A6 rfl ?_
  repeat' first|refine st ?_|((with_reducible apply A4);conv=>whnf)|refine⟨λ_=>?_,λ_=>?_⟩|fail
  all_goals rfl
 iterate 2
  ·obtain⟨a,ha,hal,hg⟩:=hg0 (by omega)
   obtain⟨b,hb,hbl,hgb⟩:=hg1 (by omega)
   rw[ha,hb] at hq
   have hq:q=(⟨true,a.ks++b.ks⟩,N4 (a.ks++b.ks) pred):=hq
   have hP:=hpr (a.ks++b.ks) (by rw[H3];omega) (w7 (bif (A5 b.ks).isEmpty then bif (A5 a.ks).isEmpty then false else false else false) .nil (.sl ([]++A5 a.ks++A5 b.ks))) (.inr (by rw[show([]:List (List D))++A5 a.ks++A5 b.ks=A5 (a.ks++b.ks) by simp[A5]];cases(A5 a.ks).isEmpty<;>cases(A5 b.ks).isEmpty<;>rfl))
   have h0:(0:Int)<es.length:=by omega
   have h1:(1:Int)<es.length:=by omega
   have hsa:B0 a.d (A5 a.ks):=C7
   have hsb:B0 b.d (A5 b.ks):=C7
   have ka:=G4 a.ks
   have kb:=G4 b.ks
   have kma:=I0 a.ks
   have kmb:=I0 b.ks
   obtain⟨ad,had⟩:∃d,d=a.d:=⟨_,rfl⟩
   obtain⟨bd,hbd⟩:∃d,d=b.d:=⟨_,rfl⟩
   rw[<- had] at hg hsa
   rw[<- hbd] at hgb hsb
   subst hq
   obtain⟨pe,hpe⟩:∃d,d=N4 (a.ks++b.ks) pred:=⟨_,rfl⟩
   rw[<- hpe] at hP
   refine⟨.sl (A5 (a.ks++b.ks)),λ_=>.inr rfl,?_⟩
   show Bi.Pure Tryz.prog A16 [F3 _ n dk dr xo xn xv xm xd dx dy da di,.d din,.d dkk] (.tup [.d (.sl (A5 (a.ks++b.ks))),.d (eI (N4 (a.ks++b.ks) pred))])
   rw[<- hpe]
   rw[show A5 (a.ks++b.ks)=[]++A5 a.ks++A5 b.ks by simp[A5]]
   obtain⟨ea,hea⟩:∃z,z=A5 a.ks:=⟨_,rfl⟩
   obtain⟨eb,heb⟩:∃z,z=A5 b.ks:=⟨_,rfl⟩
   rw[<- hea] at hsa ka kma hP ⊢
   rw[<- heb] at hsb kb kmb hP ⊢
   have b1:ea.length*8<=140737488355328/\ea.length<=9223372036854775807:=by omega
   have b2:(ea.length+eb.length)*8<=140737488355328/\ea.length+eb.length<=9223372036854775807:=by omega
   clear hva hpj hgr hpr hg0 hg1 had hbd hpe ha hb hea heb
   refine A1A.go A6 rfl ?_
   repeat' first|refine st ?_|((with_reducible apply A4);conv=>whnf)|refine⟨λ_=>?_,λ_=>?_⟩|fail
   all_goals (cases ea<;>cases eb<;>rfl)
 iterate 3
  ·obtain⟨a,ha,hal,hg⟩:=hg0 (by omega)
   obtain⟨b,hb,hbl,hgb⟩:=hg1 (by omega)
   rw[ha,hb] at hq
   have hq:q=if a.ks.length=b.ks.length then (if a.ks=b.ks then (a,0) else (J4,7)) else (J4,13):=hq
   have hqe:q.2=eqE a.ks b.ks:=by rw[hq];exact D8w a b
   have hqk:q.2=0->q.1.ks=a.ks:=by
    rw[hq];intro h
    split at h
    ·split at h
     ·rename_i c1 c2;rw[if_pos c1,if_pos c2]
     ·cases h
    ·cases h
   have hS:=C7Q a.ks b.ks (by omega) (by omega) a.d b.d C7 C7
   have h0:(0:Int)<es.length:=by omega
   have h1:(1:Int)<es.length:=by omega
   have hsa:B0 a.d (A5 a.ks):=C7
   obtain⟨ad,had⟩:∃d,d=a.d:=⟨_,rfl⟩
   obtain⟨bd,hbd⟩:∃d,d=b.d:=⟨_,rfl⟩
   rw[<- had,<- hbd,<- hqe] at hS
   rw[<- had] at hg hsa
   rw[<- hbd] at hgb
   clear hva hpj hgr hpr hg0 hg1 hbd ha hb hq had hqe
   obtain⟨⟨qn,qk⟩,qe⟩:=q
   dsimp only at hqk hS
   refine⟨ad,λh=>by rw[hqk h];exact hsa,?_⟩
   show Bi.Pure Tryz.prog A16 [F3 _ n dk dr xo xn xv xm xd dx dy da di,.d din,.d dkk] (.tup [.d ad,.d (eI qe)])
   clear hsa hqk hal hbl
   refine A1A.go A6 rfl ?_
   repeat' first|refine st ?_|((with_reducible apply A4);conv=>whnf)|refine⟨λ_=>?_,λ_=>?_⟩|fail
   all_goals rfl
 ·exfalso;omega
theorem D8a:∀p:Pl,1<=H2 p:=by
 intro p
 cases p with
 |mk o ni ins=>show 1<=S3 ins+1;omega
theorem C7P:∀p:Pl,p.bk<=1073741824->∀m:Nat,m<=24->Pure Tryz.prog B1M [p.av,.d (eI m)] (.d (eI (min (H2 p) (m+1):Nat))):=by
 refine Pl.ind λo ni ins ih hb m hm=>?_
 have hB:=Pl.bd hb
 obtain⟨xo,xn,xv,xm,xd,hav,_⟩:=Pl.cuto o ni ins
 have hq:H2 (.mk o ni ins)=S3 ins+1:=rfl
 have hp1:=D8a (.mk o ni ins)
 rw[hav]
 have hdi:B0 (ng ni (pL ins)) (pL ins):=C7
 obtain⟨dk,e1⟩:∃d,d=o.dk:=⟨_,rfl⟩
 obtain⟨dr,e2⟩:∃d,d=o.dr:=⟨_,rfl⟩
 obtain⟨dx,e3⟩:∃d,d=o.dx:=⟨_,rfl⟩
 obtain⟨dy,e4⟩:∃d,d=o.dy:=⟨_,rfl⟩
 obtain⟨da,e5⟩:∃d,d=o.da:=⟨_,rfl⟩
 obtain⟨di,e6⟩:∃d,d=ng ni (pL ins):=⟨_,rfl⟩
 rw[<- e1,<- e2,<- e3,<- e4,<- e5,<- e6]
 rw[<- e6] at hdi
 clear e1 e2 e3 e4 e5 e6 hav
 have l1:=n7 ins
 have m1:=u7 ins
 have g1:=λi p=>@A0e ins i p
 obtain⟨es,hes⟩:∃z,z=pL ins:=⟨_,rfl⟩
 rw[<- hes] at hdi l1 m1 g1
 clear hes
 obtain⟨q,hqq⟩:∃q,q=min (H2 (.mk o ni ins)) (m+1):=⟨_,rfl⟩
 rw[<- hqq]
 rw[hq] at hqq
 have hil:=hB.il
 have hsub:=hB.sub
 clear hB hb
 by_cases h0:m=0
 ·subst h0
  have:q=1:=by omega
  subst this
  clear g1 ih
  refine B5p.go A6 rfl ?_
  repeat' first|refine st ?_|((with_reducible apply A4);conv=>whnf)|refine⟨λ_=>?_,λ_=>?_⟩|fail
  all_goals rfl
 obtain⟨m',rfl⟩:∃m',m=m'+1:=⟨m-1,by omega⟩
 refine B5p.go A6 rfl ?_
 repeat' first|refine st ?_|((with_reducible apply A4);conv=>whnf)|refine⟨λ_=>?_,λ_=>?_⟩|fail
 refine J5 A6 D3l D20 (λ(i:Nat)=>[.d (eI (min (S3 (ins.take i)) (m'+1):Nat)),.d (eI i)]) (λi=>[.cells [.d (eI o.op),.d (eI o.n),.d dk,.d dr,.d (eI xo),.d (eI xn),.d (eI xv.k),.d (eI xv.n),.d (.str xv.s),.d (.str xm),.d xd,.d dx,.d dy,.d da,.d di]]) (λi=>i<=ins.length) (λi=>ins.length-i) 0 rfl rfl rfl rfl (λ_ _=>⟨rfl,rfl⟩) rfl (by omega) ?_
 repeat' first|refine st ?_|((with_reducible apply A4);conv=>whnf)|refine⟨λ_=>?_,λ_=>?_⟩|fail
 intro i i1
 cases hx:ins[i]? with
 |some p=>
  have hlt:=(B3.1 hx).1
  have hilt:(i:Int)<es.length:=by omega
  have hg:=g1 i p hx
  have hI:=ih p (C3 hx) (hsub p (C3 hx)) m' (by omega)
  have htk:=C2m hx
  obtain⟨op',n',dk',dr',xo',xn',xv',xm',xd',dx',dy',da',di',c1,c2⟩:=Pl.cut p
  have hg:es[((i:Nat):Int).toNat]?=some (N9 op' n' dk' dr' xo' xn' xv' xm' xd' dx' dy' da' di'):=by rw[<- c1];exact hg
  rw[c2] at hI
  obtain⟨u,hu⟩:∃u,u=S3 (ins.take i):=⟨_,rfl⟩
  obtain⟨v,hv⟩:∃u,u=H2 p:=⟨_,rfl⟩
  rw[<- hu,<- hv] at htk
  rw[<- hv] at hI
  rw[<- hu]
  have hI:Bi.Pure Tryz.prog B1M [F3 op' n' dk' dr' xo' xn' xv' xm' xd' dx' dy' da' di',.d (eI (((m'+1:Nat):Int)-1))] (.d (eI (min v (m'+1):Nat))):=by
   rw[show(((m'+1:Nat):Int)-1)=(m':Nat) by omega];exact hI
  clear c1 c2 hx hv ih g1 hu
  repeat' first|refine st ?_|((with_reducible apply A4);conv=>whnf)|refine⟨λ_=>?_,λ_=>?_⟩|fail
  exact⟨i+1,by rw[htk,show((min (max u v) (m'+1):Nat):Int)=max ((min u (m'+1):Nat):Int) ((min v (m'+1):Nat):Int) by omega];rfl,rfl,rfl,by omega,by omega⟩
 |none=>
  have hge:=F2.1 hx
  have hilt:(es.length:Int)<=i:=by omega
  rw[H0 hge]
  obtain⟨u,hu⟩:∃u,u=S3 ins:=⟨_,rfl⟩
  rw[<- hu] at hqq ⊢
  have hqi:(q:Int)=((min u (m'+1):Nat):Int)+1:=by omega
  rw[hqi]
  clear hx ih g1 hu
  repeat' first|refine st ?_|((with_reducible apply A4);conv=>whnf)|refine⟨λ_=>?_,λ_=>?_⟩|fail
  all_goals rfl
end Go.Proofs
end
section
namespace Go.Bi
theorem E2Y{P:Program}{n nb:Nat}{cd:IC}{N:Sl->List AO->Prop}{E0:Nat->Sl->List AO->Prop}{R:Sl->List AO->Prop}{L:Sl}{os:List AO}(id off sz:Nat)(hsz:Nat.blt 0 sz=true){cs:List AV}(ho:os[id]?=some (.cells cs))(hn:cs[off]?=some (.d .nil))
  (k:A0j P n nb cd N E0 R L ((os++[AO.arr [] sz 0 true]).set id (.cells (cs.set off (.arr os.length 0))))):A0j P n nb cd N E0 R L os:=by
 have hw:=C5A (n:=n) (nb:=nb) (ρ:=E7 L) (os:=os) id off sz (A3F A5e (R6 hsz)) ho hn
 refine⟨λcode hc c M G w a hR=>?_⟩
 obtain⟨M',G',hR'⟩:=hw c M G w a hR
 exact k.h code hc c M' G' w a hR'
end Go.Bi
namespace Go.Proofs
open Go.Bi
theorem A1Z(f:Nat->Nat)(ds:List D):mG f (.agg (ds.map .d))=.agg (ds.map .d):=by
 simp only[mG,W3]
 congr 1
theorem Q9(f:Nat->Nat)(ds:List D):mA f (.agg (ds.map .d))=.agg (ds.map .d):=by
 simp only[mA,mG,W3]
 congr 1
theorem w9(ds:List D)(n:Nat):(AV.agg (ds.map .d)).bnd2 n:=by
 intro c hc
 obtain⟨x,_,rfl⟩:=D9.1 hc
 trivial
theorem C3E{g:FuncId}(a:AV){x y:D}{r:AV}(ds:List D)(h:C0 Tryz.prog g [.agg (ds.map .d),a] [.cells [.d x]] (λr' os'=>r'=r/\os'=[.cells [.d y]]))(a':Nat->AV)(ha:∀id n,mG (rn [id] n) a=a' id)(hba:a.bnd2 1)(hr:∀f,mA f r=r){os:List AO}{id:Nat}(ho:os[id]?=some (.cells [.d x])) :
  C0 Tryz.prog g [.agg (ds.map .d),a' id] os (λr' os'=>r'=r/\os'=os.set id (.cells [.d y])):=by
 have:=C0.frame (K:=λr' os'=>r'=r/\os'=os.set id (.cells [.d y])) h [id] os rfl (by simp) (λi o hx=>?_) (λz hz=>?_) (λo hx=>?_) ?_
 ·rw[G5,G5,V5,A1Z,ha] at this;exact this
 ·cases i with
  |zero=>simp at hx;subst hx;exact ho
  |succ i=>simp at hx
 ·simp only[I2,V6,or_false] at hz
  rcases hz with rfl|rfl
  ·exact w9 _ _
  ·exact hba
 ·cases O4.1 hx
  simp[AO.bnd,AV.bnd1]
 ·rintro _ _ ⟨rfl,rfl⟩
  refine⟨hr _,?_⟩
  simp[W6,mO,mC]
theorem D9Z{g:FuncId}{x y:D}{r:AV}{ds:List D}(h:C0 Tryz.prog g [.agg (ds.map .d),.ptr 0 0] [.cells [.d x]] (λr' os'=>r'=r/\os'=[.cells [.d y]]))(hr:∀f,mA f r=r){os:List AO}{id:Nat}(ho:os[id]?=some (.cells [.d x])) :
  C0 Tryz.prog g [.agg (ds.map .d),.ptr id 0] os (λr' os'=>r'=r/\os'=os.set id (.cells [.d y])):=
 C3E _ _ h (λid=>.ptr id 0) (λid n=>rfl) (by simp[AV.bnd2,AV.bnd1]) hr ho
theorem C3F{g f:FuncId}{x y:D}{r:AV}{ds:List D}(h:C0 Tryz.prog g [.agg (ds.map .d),.clo f [0]] [.cells [.d x]] (λr' os'=>r'=r/\os'=[.cells [.d y]]))(hr:∀f,mA f r=r){os:List AO}{id:Nat}(ho:os[id]?=some (.cells [.d x])) :
  C0 Tryz.prog g [.agg (ds.map .d),.clo f [id]] os (λr' os'=>r'=r/\os'=os.set id (.cells [.d y])):=
 C3E _ _ h (λid=>.clo f [id]) (λid n=>rfl) (by simp[AV.bnd2,AV.bnd1]) hr ho
mutual
def i7(φ:Ex->Ex):Ex->Ex
 |.mk op n v nm nl args=>if op=2 then φ (.mk op n v nm true (A5N φ args)) else .mk op n v nm true (A5N φ args)
def A5N(φ:Ex->Ex):List Ex->List Ex
 |[]=>[]
 |a::l=>i7 φ a::A5N φ l
end
theorem C3Q(φ:Ex->Ex):∀l,A5N φ l=l.map (i7 φ)
 |[]=>by simp[A5N]
 |a::l=>by simp[A5N,C3Q φ l]
theorem C3P(φ:Ex->Ex)(op n:Int)(v:Vl)(nm:List UInt8)(nl:Bool)(args:List Ex):i7 φ (.mk op n v nm nl args)=if op=2 then φ (.mk op n v nm true (args.map (i7 φ))) else .mk op n v nm true (args.map (i7 φ)):=by
 rw[i7,C3Q]
def Mt(φ:Ex->Ex)(l:List Ex)(i:Nat):List (List D):=xL ((l.take i).map φ)
theorem B8O(φ:Ex->Ex)(l:List Ex)(i:Nat)(h:i<=l.length):(Mt φ l i).length=i:=by
 unfold Mt
 rw[N1,D3,L6]
 omega
theorem B8P(φ:Ex->Ex)(l:List Ex)(i:Nat):∀e∈Mt φ l i,e.length=7:=O6 _
theorem B8Q{φ:Ex->Ex}{l:List Ex}{i:Nat}{c:Ex}(h:l[i]?=some c):Mt φ l i++[(φ c).ds]=Mt φ l (i+1):=by
 unfold Mt
 rw[L5,h]
 simp[xL]
theorem B8N{φ:Ex->Ex}{l:List Ex}{i:Nat}(h:l.length<=i):Mt φ l i=xL (l.map φ):=by
 unfold Mt
 rw[H0 h]
theorem E0a(l:List (List D)):ng true l=if l.isEmpty then .nil else .sl l:=by unfold ng;rw[R2]
theorem C6u(g:FuncId)(y:D)(φ:Ex->Ex)(hg:∀x:Ex,C0 Tryz.prog g [x.av,.ptr 0 0] [.cells [.d y]] (λr os=>r=(φ x).av/\os=[.cells [.d y]])):∀e:Ex,e.bk<=1073741824->C0 Tryz.prog A8M [e.av,.clo g [0]] [.cells [.d y]] (λr os=>r=(i7 φ e).av/\os=[.cells [.d y]]):=by
 refine Ex.ind λop n v nm nl args ih hb=>?_
 obtain⟨b1,b2,b3,b4⟩:=Ex.bk_bounds hb
 obtain⟨Z,hZ⟩:∃Z,Z=(i7 φ (.mk op n v nm nl args)).av:=⟨_,rfl⟩
 rw[<- hZ]
 rw[C3P] at hZ
 rw[Ex.av_mk]
 refine C9N.goX A6 rfl ?_
 have h1:=N1 args
 have hm:=O6 args
 obtain⟨da,hda⟩:∃d,d=ng nl (xL args):=⟨_,rfl⟩
 have hsd:B0 da (xL args):=by rw[hda];exact C7
 rw[<- hda]
 have r0:v.k=v.k:=rfl
 have r1:v.s=v.s:=rfl
 have r2:nm=nm:=rfl
 repeat' first|refine st ?_|refine⟨λ_=>?_,λ_=>?_⟩|fail
 refine T5 5 7 rfl rfl ?_
 repeat' first|refine st ?_|refine⟨λ_=>?_,λ_=>?_⟩|fail
 refine M5 A6 D38 D1N (λ(i:Nat) (w:List (List D)×Bool)=>[.arr 3 w.1.length,.d (eI i)]) (λi w=>[.cells [.d y],.cells [.d (eI op),.d (eI n),.d (eI v.k),.d (eI v.n),.d (.str v.s),.d (.str nm),.d da],.cells [.d (eI 0),.d (eI 0),.d (eI 0),.d (eI 0),.d (.str []),.d (.str []),.d .nil],.arr w.1 7 0 w.2]) (λi w=>i<=args.length/\w.1=Mt (i7 φ) args i/\w.2=w.1.isEmpty) (λi _=>args.length-i) 0 ([],true) rfl rfl rfl rfl (λ_ _ _=>⟨rfl,rfl⟩) rfl ⟨by omega,rfl,rfl⟩ ?_
 repeat' first|refine st ?_|refine⟨λ_=>?_,λ_=>?_⟩|fail
 intro i w ⟨h4,h5,h6⟩
 obtain⟨A,b⟩:=w
 dsimp only at h5 h6 ⊢
 have hAl:A.length=i:=by rw[h5];exact B8O _ args i (by omega)
 have hAm:∀e∈A,e.length=7:=by rw[h5];exact B8P _ _ _
 cases hx:args[i]? with
 |some x=>
  have hlt:=(B3.1 hx).1
  have hs:=B8Q (φ:=i7 φ) hx
  have hg:=b9 hx
  have hi:=ih x (C3 hx) (b4 x (C3 hx))
  rw[<- h5] at hs
  have hL:∀os:List AO,os[0]?=some (.cells [.d y])->C0 Tryz.prog A8M [x.av,.clo g [0]] os (λr' os'=>r'=(i7 φ x).av/\os'=os.set 0 (.cells [.d y])):=λos ho=>C3F (id:=0) hi (λf=>Q9 f _) ho
  obtain⟨z,hz⟩:∃z,z=i7 φ x:=⟨_,rfl⟩
  rw[<- hz] at hs hL
  obtain⟨o1,n1,v1,m1,l1,a1⟩:=x
  obtain⟨o2,n2,v2,m2,l2,a2⟩:=z
  rw[Ex.ds_mk] at hg hs
  simp only[Ex.av_mk] at hL
  repeat' first|refine st ?_|((with_reducible first|apply O1|apply O0);(·exact hL _ rfl);(try rintro _ _ ⟨rfl,rfl⟩))|((with_reducible apply O2);(·exact hL _ rfl))|refine⟨λ_=>?_,λ_=>?_⟩|fail
  exact⟨i+1,(A++[U3 o2 n2 v2 m2 (ng l2 (xL a2))],false),rfl,rfl,rfl,by omega,by omega,hs,by simp⟩
 |none=>
  have hge:=F2.1 hx
  rw[B8N hge] at h5
  have hx':(Ex.mk op n v nm true (args.map (i7 φ))).av=eX op n v nm (if A.isEmpty then .nil else .sl A):=by rw[Ex.av_mk,E0a,<- h5]
  have hφ:∀os:List AO,os[0]?=some (.cells [.d y])->C0 Tryz.prog g [(Ex.mk op n v nm true (args.map (i7 φ))).av,.ptr 0 0] os (λr' os'=>r'=(φ (.mk op n v nm true (args.map (i7 φ)))).av/\os'=os.set 0 (.cells [.d y])):=λos ho=>D9Z (id:=0) (hg _) (λf=>Q9 f _) ho
  rw[<- h6] at hx'
  by_cases h2:op=2
  ·rw[if_pos h2] at hZ
   obtain⟨z,hz⟩:∃z,z=φ (.mk op n v nm true (args.map (i7 φ))):=⟨_,rfl⟩
   rw[<- hz] at hZ hφ
   rw[hx'] at hφ
   obtain⟨o2,n2,v2,m2,l2,a2⟩:=z
   simp only[Ex.av_mk] at hZ hφ
   rw[hZ]
   cases b with
   |true=>
    rw[if_pos rfl] at hφ
    repeat' first|refine st ?_|((with_reducible first|apply O1|apply O0);(·exact hφ _ rfl);(try rintro _ _ ⟨rfl,rfl⟩))|((with_reducible apply O2);(·exact hφ _ rfl))|refine⟨λ_=>?_,λ_=>?_⟩|fail
    all_goals exact⟨rfl,rfl⟩
   |false=>
    rw[if_neg (by simp)] at hφ
    repeat' first|refine st ?_|((with_reducible first|apply O1|apply O0);(·exact hφ _ rfl);(try rintro _ _ ⟨rfl,rfl⟩))|((with_reducible apply O2);(·exact hφ _ rfl))|refine⟨λ_=>?_,λ_=>?_⟩|fail
    all_goals exact⟨rfl,rfl⟩
  ·rw[if_neg h2,hx'] at hZ
   rw[hZ]
   cases b with
   |true=>
    repeat' first|refine st ?_|refine⟨λ_=>?_,λ_=>?_⟩|fail
    all_goals exact⟨rfl,rfl⟩
   |false=>
    repeat' first|refine st ?_|refine⟨λ_=>?_,λ_=>?_⟩|fail
    all_goals exact⟨rfl,rfl⟩
def shC(k:Int):Ex->Ex
 |.mk op n v nm nl args=>.mk op (M3 (n+k)) v nm nl args
def A9(k:Int)(e:Ex):Ex:=i7 (shC k) e
theorem C6a(k:Int)(x:Ex):C0 Tryz.prog A8L [x.av,.ptr 0 0] [.cells [.d (eI k)]] (λr os=>r=(shC k x).av/\os=[.cells [.d (eI k)]]):=by
 obtain⟨op,n,v,nm,nl,args⟩:=x
 rw[shC,Ex.av_mk,Ex.av_mk]
 refine C9D.goX A6 rfl ?_
 repeat' first|refine st ?_|refine⟨λ_=>?_,λ_=>?_⟩|fail
 all_goals exact⟨rfl,rfl⟩
theorem A2S(e:Ex)(he:e.bk<=1073741824)(k:Int):Pure Tryz.prog C07 [e.av,.d (eI k)] (A9 k e).av:=by
 have hM:=C6u A8L (eI k) (shC k) (C6a k) e he
 have hL:∀os:List AO,os[1]?=some (.cells [.d (eI k)])->C0 Tryz.prog A8M [e.av,.clo A8L [1]] os (λr' os'=>r'=(i7 (shC k) e).av/\os'=os.set 1 (.cells [.d (eI k)])):=λos ho=>C3F (id:=1) hM (λf=>Q9 f _) ho
 unfold A9
 obtain⟨z,hz⟩:∃z,z=i7 (shC k) e:=⟨_,rfl⟩
 rw[<- hz] at hL ⊢
 obtain⟨o1,n1,v1,m1,l1,a1⟩:=e
 obtain⟨o2,n2,v2,m2,l2,a2⟩:=z
 simp only[Ex.av_mk] at hL ⊢
 refine C9C.go A6 rfl ?_
 repeat' first|refine st ?_|((with_reducible first|apply O1|apply O0);(·exact hL _ rfl);(try rintro _ _ ⟨rfl,rfl⟩))|((with_reducible apply O2);(·exact hL _ rfl))|refine⟨λ_=>?_,λ_=>?_⟩|fail
 all_goals rfl
theorem A25(k op n:Int)(v:Vl)(nm:List UInt8)(nl:Bool)(args:List Ex):A9 k (.mk op n v nm nl args)=.mk op (if op=2 then M3 (n+k) else n) v nm true (args.map (A9 k)):=by
 unfold A9
 rw[C3P]
 by_cases h:op=2
 ·rw[if_pos h,if_pos h];rfl
 ·rw[if_neg h,if_neg h]
end Go.Proofs
end
section
namespace Go.Bi
theorem A0P{f:Nat->Nat}{k:Nat}(hf:∀i,i<k->f i=i){c:AV}(h:c.bnd1 k):mC f c=c:=by
 cases c with
 |ptr id off=>simp only[mC];rw[hf id h]
 |aptr id len i off=>simp only[mC];rw[hf id h]
 |arr id len=>simp only[mC];rw[hf id h]
 |clo g caps=>
  simp only[mC]
  congr 1
  conv=>rhs;rw[<- A05 caps]
  exact P3 λi hi=>hf i (h i hi)
 |bcl g id=>simp only[mC];rw[hf id h]
 |iter id=>simp only[mC];rw[hf id h]
 |mp id=>simp only[mC];rw[hf id h]
 |mit id=>simp only[mC];rw[hf id h]
 |rs id len=>simp only[mC];rw[hf id h]
 |rp id len i off=>simp only[mC];rw[hf id h]
 |_=>rfl
theorem C3L{f:Nat->Nat}{k:Nat}(hf:∀i,i<k->f i=i){c:AV}(h:c.bnd2 k):mG f c=c:=by
 cases c with
 |agg cs=>
  simp only[mG]
  congr 1
  conv=>rhs;rw[<- A05 cs]
  exact P3 λc hc=>A0P hf (h c hc)
 |ptr id off=>exact A0P (c:=.ptr id off) hf h
 |aptr id len i off=>exact A0P (c:=.aptr id len i off) hf h
 |arr id len=>exact A0P (c:=.arr id len) hf h
 |clo g caps=>exact A0P (c:=.clo g caps) hf h
 |bcl g id=>exact A0P (c:=.bcl g id) hf h
 |iter id=>exact A0P (c:=.iter id) hf h
 |mp id=>exact A0P (c:=.mp id) hf h
 |mit id=>exact A0P (c:=.mit id) hf h
 |rs id len=>exact A0P (c:=.rs id len) hf h
 |rp id len i off=>exact A0P (c:=.rp id len i off) hf h
 |_=>rfl
theorem C3N{f:Nat->Nat}{k:Nat}(hf:∀i,i<k->f i=i){o:AO}(h:o.bnd k):mO f o=o:=by
 cases o with
 |cells cs=>
  simp only[mO]
  congr 1
  conv=>rhs;rw[<- A05 cs]
  exact P3 λc hc=>A0P hf (h c hc)
 |map kvs=>
  simp only[mO]
  congr 1
  conv=>rhs;rw[<- A05 kvs]
  exact P3 λp hp=>by rw[C3L hf (h p hp)];rfl
 |mit m n s=>simp only[mO];rw[hf m h]
 |rarr es sz nl=>
  simp only[mO]
  congr 1
  conv=>rhs;rw[<- A05 es]
  refine P3 λe he=>?_
  conv=>rhs;rw[id,<- A05 e]
  exact P3 λc hc=>A0P hf (h e he c hc)
 |_=>rfl
theorem C0.pre{P:Program}{g:FuncId}{args:List AV}{bs:List AO}{Q:AV->List AO->Prop}(h:C0 P g args bs Q)(rest:List AO)(hba:∀a∈args,a.bnd2 bs.length)(hbo:∀o∈bs,o.bnd bs.length){K:AV->List AO->Prop}
  (hk:∀r bs',Q r bs'->bs'.length=bs.length/\(∀o∈bs',o.bnd bs.length)/\(∀f,mA f r=r)/\K r (bs'++rest)):C0 P g args (bs++rest) K:=by
 have hf:∀n i,i<bs.length->rn (List.range bs.length) n i=i:=λn i hi=>by
  rw[B3n (by simpa using hi),H6]
  simp[hi]
 have:=C0.frame (K:=K) h (List.range bs.length) (bs++rest) (by simp) List.nodup_range (λi o hx=>?_) hba hbo (λr bs' hq=>?_)
 ·have e:args.map (mG (rn (List.range bs.length) (bs++rest).length))=args:=by
   conv=>rhs;rw[<- A05 args]
   exact P3 λa ha=>C3L (hf _) (hba a ha)
  rwa [e] at this
 ·have hi:=(B3.1 hx).1
  have e:=hf (bs++rest).length i hi
  rw[B3n (by simpa using hi)] at e
  rw[e,P8 hi,hx,C3N (hf _) (hbo o (C3 hx))]
 ·obtain⟨h1,h2,h3,h4⟩:=hk r bs' hq
  rw[h3]
  obtain⟨g1,g2,g3,g4⟩:=B3g (rn (List.range bs.length) (bs++rest).length) (List.range bs.length) bs' (bs++rest) List.nodup_range (λs hs=>by simp at hs ⊢;omega) (by simp[h1])
  have e:W6 (rn (List.range bs.length) (bs++rest).length) (List.range bs.length) bs' (bs++rest)=bs'++rest:=by
   refine List.ext_getElem? λj=>?_
   rcases Nat.lt_or_ge j bs.length with hj|hj
   ·have hb:bs'[j]?=some bs'[j]:=F1 (by omega)
    rw[g1 j j _ (by simp[hj]) hb,P8 (by omega),hb,C3N (hf _) (h2 _ (C3 hb))]
   ·rcases Nat.lt_or_ge j (bs++rest).length with hj2|hj2
    ·rw[g2 j hj2 (by simp;omega),W8 hj,W8 (by omega),h1]
    ·rw[A1C (by rw[g4];simp at hj2 ⊢;omega),A1C (by simp at hj2 ⊢;omega)]
  rw[e]
  exact h4
end Go.Bi
namespace Go.Proofs
open Go.Bi
def A2x(op n:Int)(v:Vl)(nm:List UInt8)(k:Nat):Bool:=decide (op=5/\2<=k/\n=0/\nm=[]/\v=C5)
mutual
/-- The conjuncts. -/
def cj:Ex->List Ex
 |.mk op n v nm nl args=>if A2x op n v nm args.length then cjs args else [.mk op n v nm nl args]
def cjs:List Ex->List Ex
 |[]=>[]
 |a::l=>cj a++cjs l
end
theorem C1Q:∀l,cjs l=l.flatMap cj
 |[]=>by simp[cjs]
 |a::l=>by simp[cjs,C1Q l]
theorem A2o(op n:Int)(v:Vl)(nm:List UInt8)(nl:Bool)(args:List Ex):cj (.mk op n v nm nl args)=if A2x op n v nm args.length then args.flatMap cj else [.mk op n v nm nl args]:=by rw[cj,C1Q]
theorem D8S{l:List Ex}{f:Ex->List Ex}(h:∀a∈l,(f a).length<=a.bk):(l.flatMap f).length<=D5 (xL l):=by
 induction l with
 |nil=>simp
 |cons a l ih=>
  have h1:=h a (by simp)
  have h2:=ih λb hb=>h b (by simp[hb])
  rw[A55,H3]
  simp only[xL,G5,D5]
  unfold Ex.bk at h1
  unfold xL at h2
  omega
theorem A6P:∀e:Ex,(cj e).length<=e.bk:=by
 refine Ex.ind λop n v nm nl args ih=>?_
 have hb:=Ex.bk_mk op n v nm nl args
 rw[A2o]
 split
 ·have:=D8S ih
  omega
 ·simp;omega
theorem C1N:∀e:Ex,∀x∈cj e,x.bk<=e.bk:=by
 refine Ex.ind λop n v nm nl args ih x hx=>?_
 rw[A2o] at hx
 split at hx
 ·obtain⟨a,ha,hxa⟩:=A0I.1 hx
  have:=ih a ha x hxa
  have:=Ex.bk_arg (op:=op) (n:=n) (v:=v) (name:=nm) (nl:=nl) ha
  omega
 ·simp at hx;subst hx;omega
theorem C1R{l:List Ex}{i:Nat}{x:Ex}(h:l[i]?=some x):(l.take (i+1)).flatMap cj=(l.take i).flatMap cj++cj x:=by
 rw[L5,h];simp
theorem C1O{l:List Ex}{i:Nat}{x:Ex}(h:l[i]?=some x):(l.drop i).flatMap cj=cj x++(l.drop (i+1)).flatMap cj:=by
 obtain⟨hlt,he⟩:=B3.1 h
 rw[R4 hlt,he];simp
theorem D9c{op n:Int}{v:Vl}{nm:List UInt8}{k:Nat}(h:A2x op n v nm k=true):op=5/\2<=k/\n=0/\nm=[]/\v.k=0/\v.n=0/\v.s=[]:=by
 unfold A2x at h
 obtain⟨h1,h2,h3,h4,h5⟩:=of_decide_eq_true h
 subst h5
 exact⟨h1,h2,h3,h4,rfl,rfl,rfl⟩
theorem D9b{op n:Int}{v:Vl}{nm:List UInt8}{k:Nat}(h:A2x op n v nm k=false)(h1:op=5)(h2:2<=k)(h3:n=0)(h4:nm=[])(h5:v.k=0)(h6:v.n=0)(h7:v.s=[]):False:=by
 unfold A2x at h
 have:=of_decide_eq_false h
 exact this ⟨h1,h2,h3,h4,by cases v;simp_all[C5]⟩
theorem B46(g:FuncId)(sz:Nat)(f:List (List D)->Ex->List (List D))(ok:Nat->List (List D)->Prop)(hg:∀x:Ex,x.bk<=1073741824->∀(k:Nat)(s:List (List D)),ok (k+1) s->ok k (f s x)/\C0 Tryz.prog g [x.av,.ptr 0 0] [.cells [.arr 1 s.length],.arr s sz 0 s.isEmpty] (λr os=>r=.tup []/\os=[.cells [.arr 1 (f s x).length],.arr (f s x) sz 0 (f s x).isEmpty])):∀e:Ex,e.bk<=1073741824->∀(k:Nat)(s:List (List D)),ok (k+(cj e).length) s->ok k ((cj e).foldl f s)/\C0 Tryz.prog A5d [e.av,.clo g [0]] [.cells [.arr 1 s.length],.arr s sz 0 s.isEmpty] (λr os=>r=.tup []/\os=[.cells [.arr 1 ((cj e).foldl f s).length],.arr ((cj e).foldl f s) sz 0 ((cj e).foldl f s).isEmpty]):=by
 have hP:∀x:Ex,x.bk<=1073741824->∀(k:Nat) (s:List (List D)),ok (k+1) s->∀rest,C0 Tryz.prog g [x.av,.ptr 0 0] ([.cells [.arr 1 s.length],.arr s sz 0 s.isEmpty]++rest) (λr os=>r=.tup []/\os=[.cells [.arr 1 (f s x).length],.arr (f s x) sz 0 (f s x).isEmpty]++rest):=λx hx k s hs rest=>
  C0.pre (hg x hx k s hs).2 rest (by
   intro a ha
   simp only[I2,V6,or_false] at ha
   rcases ha with rfl|rfl
   ·exact w9 _ _
   all_goals simp[AV.bnd2,AV.bnd1]) (by intro o ho;simp at ho;(try rcases ho with rfl|rfl|rfl)<;>(try rcases ho with rfl|rfl)<;>(try subst ho)<;>simp[AO.bnd,AV.bnd1]) (by rintro r bs' ⟨rfl,rfl⟩;exact⟨rfl,by intro o ho;simp at ho;(try rcases ho with rfl|rfl|rfl)<;>(try rcases ho with rfl|rfl)<;>(try subst ho)<;>simp[AO.bnd,AV.bnd1],λf=>rfl,rfl,rfl⟩)
 refine Ex.ind λop n v nm nl args ih hb k s hs=>?_
 obtain⟨b1,b2,b3,b4⟩:=Ex.bk_bounds hb
 have h1:=N1 args
 have hm:=O6 args
 have hP':=hP (.mk op n v nm nl args) hb k s
 have hg':=hg (.mk op n v nm nl args) hb k s
 rw[A2o] at hs ⊢
 rw[Ex.av_mk] at hP' ⊢
 obtain⟨da,hda⟩:∃d,d=ng nl (xL args):=⟨_,rfl⟩
 have hsd:B0 da (xL args):=by rw[hda];exact C7
 rw[<- hda] at hP' ⊢
 cases hA:A2x op n v nm args.length with
 |false=>
  have hF:=D9b hA
  rw[hA,if_neg (by simp)] at hs
  rw[if_neg (by simp)]
  have hq:=hP' hs
  rw[A11,List.foldl_nil]
  refine⟨(hg' hs).1,?_⟩
  refine B5m.goX A6 rfl ?_
  repeat' first|refine st ?_|((with_reducible first|apply O1|apply O0);(·exact hq _);(try rintro _ _ ⟨rfl,rfl⟩))|((with_reducible apply O2);(·exact hq _))|refine⟨λ_=>?_,λ_=>?_⟩|fail
  all_goals first|exact⟨rfl,rfl⟩|(exfalso;exact hF (by assumption) (by omega) (by assumption) (by assumption) (by assumption) (by assumption) (by assumption))|(exfalso;simp_all;done)
 |true=>
  obtain⟨c1,c2,c3,c4,c5,c6,c7⟩:=D9c hA
  rw[hA,if_pos rfl] at hs
  rw[if_pos rfl]
  have key:∀i,i<=args.length->ok (k+((args.drop i).flatMap cj).length) (((args.take i).flatMap cj).foldl f s):=by
   intro i
   induction i with
   |zero=>intro _;simpa using hs
   |succ i ihi=>
    intro hi
    have hx:args[i]?=some args[i]:=F1 (by omega)
    have hi':=ihi (by omega)
    rw[C1O hx,H3,show ∀a b:Nat,k+(a+b)=k+b+a by intros;omega] at hi'
    rw[C1R hx,List.foldl_append]
    exact(ih _ (C3 hx) (b4 _ (C3 hx)) _ _ hi').1
  have keyE:=key args.length (D4 _)
  rw[List.take_length,List.drop_length] at keyE
  refine⟨keyE,?_⟩
  refine B5m.goX A6 rfl ?_
  repeat' first|refine st ?_|refine⟨λ_=>?_,λ_=>?_⟩|fail
  refine J5 A6 D3g D1V (λ(i:Nat)=>[.d (eI i)]) (λi=>[.cells [.arr 1 (((args.take i).flatMap cj).foldl f s).length],.arr (((args.take i).flatMap cj).foldl f s) sz 0 (((args.take i).flatMap cj).foldl f s).isEmpty]++[.cells [.d (eI op),.d (eI n),.d (eI v.k),.d (eI v.n),.d (.str v.s),.d (.str nm),.d da]]) (λi=>i<=args.length) (λi=>args.length-i) 0 rfl rfl rfl rfl (λ_ _=>⟨rfl,rfl⟩) rfl (K1 _) ?_
  repeat' first|refine st ?_|refine⟨λ_=>?_,λ_=>?_⟩|fail
  intro i h4
  obtain⟨t,ht⟩:∃t,t=((args.take i).flatMap cj).foldl f s:=⟨_,rfl⟩
  have hkt:=key i h4
  rw[<- ht] at hkt ⊢
  cases hx:args[i]? with
  |some x=>
   have hlt:=(B3.1 hx).1
   have hgx:=b9 hx
   have hxm:=C3 hx
   rw[C1O hx,H3,show ∀a b:Nat,k+(a+b)=k+b+a by intros;omega] at hkt
   have hi:=ih x hxm (b4 x hxm) _ t hkt
   have hn:((args.take (i+1)).flatMap cj).foldl f s=(cj x).foldl f t:=by rw[C1R hx,List.foldl_append,ht]
   have hL:∀rest,C0 Tryz.prog A5d [x.av,.clo g [0]] ([.cells [.arr 1 t.length],.arr t sz 0 t.isEmpty]++rest) (λr os=>r=.tup []/\os=[.cells [.arr 1 (((args.take (i+1)).flatMap cj).foldl f s).length],.arr (((args.take (i+1)).flatMap cj).foldl f s) sz 0 (((args.take (i+1)).flatMap cj).foldl f s).isEmpty]++rest):=λrest=>by
    rw[hn]
    exact C0.pre hi.2 rest (by
     intro a ha
     simp only[I2,V6,or_false] at ha
     rcases ha with rfl|rfl
     ·exact w9 _ _
     ·simp[AV.bnd2,AV.bnd1]) (by intro o ho;simp at ho;(try rcases ho with rfl|rfl|rfl)<;>(try rcases ho with rfl|rfl)<;>(try subst ho)<;>simp[AO.bnd,AV.bnd1]) (by rintro r bs' ⟨rfl,rfl⟩;exact⟨rfl,by intro o ho;simp at ho;(try rcases ho with rfl|rfl|rfl)<;>(try rcases ho with rfl|rfl)<;>(try subst ho)<;>simp[AO.bnd,AV.bnd1],λf=>rfl,rfl,rfl⟩)
   obtain⟨o1,n1,v1,m1,l1,a1⟩:=x
   rw[Ex.ds_mk] at hgx
   simp only[Ex.av_mk] at hL
   repeat' first|refine st ?_|((with_reducible first|apply O1|apply O0);(·exact hL _);(try rintro _ _ ⟨rfl,rfl⟩))|((with_reducible apply O2);(·exact hL _))|refine⟨λ_=>?_,λ_=>?_⟩|fail
   exact⟨i+1,rfl,rfl,rfl,by omega,by omega⟩
  |none=>
   have hge:=F2.1 hx
   rw[H0 hge] at ht
   rw[<- ht]
   repeat' first|refine st ?_|refine⟨λ_=>?_,λ_=>?_⟩|fail
   all_goals exact⟨rfl,rfl⟩
end Go.Proofs
end
section
namespace Go.Proofs
open Go.Bi
theorem C3X{K:List Kw}{p:Pl}(h:(C4 K p).2=0):(C4 K p).1.d=.sl (A5 (C4 K p).1.ks):=by
 obtain⟨o,ni,ins⟩:=p
 obtain⟨_,_,_,_,_,h6⟩:=n5 h
 unfold Kw.d ng
 cases hk:(C4 K (.mk o ni ins)).1.ks with
 |nil=>rw[hk] at h6;simp at h6
 |cons a r=>simp[A5]
theorem E05{K:List Kw}{p:Pl}(h:(C4 K p).2≠0):(C4 K p).1=J4:=by
 obtain⟨o,ni,ins⟩:=p
 rw[A5R] at h ⊢
 unfold ndN at h ⊢
 by_cases h1:J8 o.op<0
 ·rw[if_pos h1]
 rw[if_neg h1] at h ⊢
 by_cases h2:(ins.length:Int)=J8 o.op
 rotate_left
 ·rw[if_neg h2]
 rw[if_pos h2] at h ⊢
 by_cases h3:t7 (ins.map (C4 K))=0
 rotate_left
 ·rw[if_neg h3]
 rw[if_pos h3] at h ⊢
 unfold ndR at h ⊢
 by_cases h4:(I1 K o ((ins.map (C4 K)).map Prod.fst)).2=0
 ·rw[if_pos h4] at h ⊢
  by_cases h5:(I1 K o ((ins.map (C4 K)).map Prod.fst)).1.ks.length=0\/48<(I1 K o ((ins.map (C4 K)).map Prod.fst)).1.ks.length
  ·rw[if_pos h5]
  ·rw[if_neg h5] at h;exact absurd rfl h
 ·rw[if_neg h4]
abbrev ckO(din:D):List AO:=[.cells [.clo A15 [0,1]],.cells [.d din]]
theorem C62(K:List Kw)(hK:K.length<=4294967296)(hKb:∀k∈K,k.ks.length<=4294967296)(din:D)(hin:B0 din (E6 K)):∀p:Pl,p.bk<=1073741824->
  C0 Tryz.prog A15 [p.av,.ptr 0 0,.ptr 1 0] (ckO din) (λr os=>r=.tup [.d (C4 K p).1.d,.d (eI (C4 K p).2)]/\os=ckO din):=by
 refine Pl.ind λo ni ins ih hb=>?_
 have hB:=Pl.bd hb
 have hI:=C7S o.op
 have hR:=λk hk hkb dkk hdk=>C7T K hK hKb din hin o ni ins hb k hk hkb dkk hdk
 have hqs:=@C3X K (.mk o ni ins)
 have hq:=A5R K o ni ins
 obtain⟨q,hqq⟩:∃q,q=C4 K (.mk o ni ins):=⟨_,rfl⟩
 rw[<- hqq] at hq hqs ⊢
 clear hqq
 obtain⟨xo,xn,xv,xm,xd,hav,_⟩:=Pl.cuto o ni ins
 rw[hav] at hR ⊢
 clear hav
 have hil:=hB.il
 have hsub:=hB.sub
 clear hB hb
 obtain⟨op,n,nk,ki,nr,rows,pred,nx,xs,ny,keys,na,aggs⟩:=o
 have hdi:B0 (ng ni (pL ins)) (pL ins):=C7
 obtain⟨dk,e1⟩:∃d,d=ng nk (A5 ki):=⟨_,rfl⟩
 obtain⟨dr,e2⟩:∃d,d=ng nr (B6 rows):=⟨_,rfl⟩
 obtain⟨dx,e3⟩:∃d,d=ng nx (xL xs):=⟨_,rfl⟩
 obtain⟨dy,e4⟩:∃d,d=ng ny (A5 keys):=⟨_,rfl⟩
 obtain⟨da,e5⟩:∃d,d=ng na (H4 aggs):=⟨_,rfl⟩
 obtain⟨di,e6⟩:∃d,d=ng ni (pL ins):=⟨_,rfl⟩
 have hR:∀(k:List Kw),(k.length:Int)=J8 op->(∀x∈k,x.ks.length<=48)->∀dkk,B0 dkk (E6 k)->∃kd,((I1 K ⟨op,n,nk,ki,nr,rows,pred,nx,xs,ny,keys,na,aggs⟩ k).2=0->B0 kd (A5 (I1 K ⟨op,n,nk,ki,nr,rows,pred,nx,xs,ny,keys,na,aggs⟩ k).1.ks))/\Bi.Pure Tryz.prog A16 [F3 op n dk dr xo xn xv xm xd dx dy da di,.d din,.d dkk] (.tup [.d kd,.d (eI (I1 K ⟨op,n,nk,ki,nr,rows,pred,nx,xs,ny,keys,na,aggs⟩ k).2)]):=by
  rw[e1,e2,e3,e4,e5,e6];exact hR
 show C0 Tryz.prog A15 [F3 op n (ng nk (A5 ki)) (ng nr (B6 rows)) xo xn xv xm xd (ng nx (xL xs)) (ng ny (A5 keys)) (ng na (H4 aggs)) (ng ni (pL ins)),.ptr 0 0,.ptr 1 0] (ckO din) _
 rw[<- e1,<- e2,<- e3,<- e4,<- e5,<- e6]
 rw[<- e6] at hdi
 obtain⟨o,ho⟩:∃o:Po,o=⟨op,n,nk,ki,nr,rows,pred,nx,xs,ny,keys,na,aggs⟩:=⟨_,rfl⟩
 rw[<- ho] at hR hq
 have hoo:o.op=op:=by rw[ho]
 clear e1 e2 e3 e4 e5 e6 ho
 unfold ndN at hq
 rw[hoo] at hq
 have hI:Bi.Pure Tryz.prog B1N [.d (eI op)] (.d (eI (J8 op))):=hI
 obtain⟨m,hm⟩:∃m,m=J8 op:=⟨_,rfl⟩
 rw[<- hm] at hI hR hq
 clear hm hoo
 have l1:=n7 ins
 have m1:=u7 ins
 have g1:=λi p=>@A0e ins i p
 obtain⟨es,hes⟩:∃z,z=pL ins:=⟨_,rfl⟩
 rw[<- hes] at hdi l1 m1 g1
 clear hes
 have r0:xv.k=xv.k:=rfl
 have r1:xv.s=xv.s:=rfl
 have r2:xm=xm:=rfl
 by_cases h1:m<0
 ·rw[if_pos h1] at hq
  subst hq
  clear hR g1 ih hqs
  refine B11.goX A6 rfl ?_
  repeat' first|refine st ?_|((with_reducible apply A4);conv=>whnf)|refine⟨λ_=>?_,λ_=>?_⟩|fail
  all_goals exact⟨rfl,rfl⟩
 rw[if_neg h1] at hq
 by_cases h2:(ins.length:Int)=m
 rotate_left
 ·rw[if_neg h2] at hq
  subst hq
  have h3:¬m=(es.length:Int):=by omega
  clear hR g1 ih hqs
  refine B11.goX A6 rfl ?_
  repeat' first|refine st ?_|((with_reducible apply A4);conv=>whnf)|refine⟨λ_=>?_,λ_=>?_⟩|fail
  all_goals first|exact⟨rfl,rfl⟩|(exfalso;omega)
 rw[if_pos h2] at hq
 have h3:m=(es.length:Int):=by omega
 obtain⟨rs,hrs⟩:∃z,z=ins.map (C4 K):=⟨_,rfl⟩
 have hrl:rs.length=ins.length:=by rw[hrs,D3]
 have hrg:∀i p,ins[i]?=some p->rs[i]?=some (C4 K p):=λi p h=>by rw[hrs,I7,h];rfl
 have hrb:∀x∈rs.map Prod.fst,x.ks.length<=48:=λx hx=>by
  obtain⟨y,hy,rfl⟩:=D9.1 hx
  rw[hrs] at hy
  obtain⟨p,_,rfl⟩:=D9.1 hy
  exact m9 K p
 rw[<- hrs] at hq
 clear hrs
 refine B11.goX A6 rfl ?_
 repeat' first|refine st ?_|((with_reducible apply A4);conv=>whnf)|refine⟨λ_=>?_,λ_=>?_⟩|fail
 refine T5 7 1 rfl rfl ?_
 refine M5 A6 D3j D1Y (λ(i:Nat) (w:List Kw)=>[.arr 3 (E6 w).length,.d (eI i)]) (λi w=>[.cells [.clo A15 [0,1]],.cells [.d din],.cells [.d (eI op),.d (eI n),.d dk,.d dr,.d (eI xo),.d (eI xn),.d (eI xv.k),.d (eI xv.n),.d (.str xv.s),.d (.str xm),.d xd,.d dx,.d dy,.d da,.d di],.arr (E6 w) 1 0 (E6 w).isEmpty]) (λi w=>i<=ins.length/\w=(rs.take i).map Prod.fst/\t7 (rs.drop i)=t7 rs) (λi w=>ins.length-i) 0 [] rfl rfl rfl rfl (λ_ _ _=>⟨rfl,rfl⟩) rfl ⟨by omega,rfl,rfl⟩ ?_
 repeat' first|refine st ?_|((with_reducible apply A4);conv=>whnf)|refine⟨λ_=>?_,λ_=>?_⟩|fail
 intro i w ⟨i1,i2,i3⟩
 have hw1:=A3U w
 have hwm:=A3V w
 have hwl:w.length<=i:=by rw[i2];simp;omega
 have hbd:((E6 w).length+1)*24<=140737488355328:=by omega
 have happ:=λk:Kw=>show E6 (w++[k])=E6 w++[[k.d]] by simp[E6]
 have hne:=λk:Kw=>show(E6 (w++[k])).isEmpty=false by simp[E6]
 obtain⟨A,hA⟩:∃z,z=E6 w:=⟨_,rfl⟩
 rw[<- hA] at hw1 hwm hbd ⊢
 cases hi:ins[i]? with
 |some p=>
  have hlt:=(B3.1 hi).1
  have hil3:(i:Int)<es.length:=by omega
  have hg:=g1 i p hi
  have hC:=ih p (C3 hi) (hsub p (C3 hi))
  have hrx:=hrg i p hi
  have hfd:=C2T hrx
  have htk:(rs.take (i+1)).map Prod.fst=w++[(C4 K p).1]:=by rw[L5,hrx,A6l,<- i2];rfl
  rw[i3] at hfd
  have hL:∀rest:List AO,C0 Tryz.prog A15 [p.av,.ptr 0 0,.ptr 1 0] (ckO din++rest) (λr os=>r=.tup [.d (C4 K p).1.d,.d (eI (C4 K p).2)]/\os=ckO din++rest):=λrest=>
   C0.pre hC rest (by
    intro a ha
    simp only[I2,V6,or_false] at ha
    rcases ha with rfl|rfl|rfl
    ·exact w9 _ _
    ·simp[AV.bnd2,AV.bnd1]
    ·simp[AV.bnd2,AV.bnd1]) (by
    intro o ho
    simp only[I2,V6,or_false] at ho
    rcases ho with rfl|rfl<;>simp[AO.bnd,AV.bnd1]) (by
    rintro r bs' ⟨rfl,rfl⟩
    refine⟨rfl,?_,λf=>rfl,rfl,rfl⟩
    intro o ho
    simp only[I2,V6,or_false] at ho
    rcases ho with rfl|rfl<;>simp[AO.bnd,AV.bnd1])
  obtain⟨op',n',dk',dr',xo',xn',xv',xm',xd',dx',dy',da',di',c1,c2⟩:=Pl.cut p
  have hg:es[((i:Nat):Int).toNat]?=some (N9 op' n' dk' dr' xo' xn' xv' xm' xd' dx' dy' da' di'):=by rw[<- c1];exact hg
  rw[c2] at hL
  obtain⟨⟨k,er⟩,hk⟩:∃z,z=C4 K p:=⟨_,rfl⟩
  rw[<- hk] at hL hfd htk
  dsimp only at hL hfd htk
  have happ:=happ k
  have hne:=hne k
  rw[<- hA] at happ
  obtain⟨kd,hkd⟩:∃d,d=k.d:=⟨_,rfl⟩
  rw[<- hkd] at hL happ
  clear hkd hA c1 c2 hi g1 ih hk hrg hR hrx hC hqs
  by_cases hr:er=0
  ·subst hr
   rw[if_pos rfl] at hfd
   repeat' first|refine st ?_|((with_reducible apply A4);conv=>whnf)|((with_reducible first|apply O1|apply O0);(·exact hL _);(try rintro _ _ ⟨rfl,rfl⟩))|((with_reducible apply O2);(·exact hL _))|refine⟨λ_=>?_,λ_=>?_⟩|fail
   exact⟨i+1,w++[k],by rw[happ];simp,rfl,by rw[hne,happ];simp,by omega,by omega,htk.symm,hfd.symm⟩
  ·rw[if_neg hr] at hfd
   rw[hfd,if_neg hr] at hq
   subst hq
   clear happ hne
   repeat' first|refine st ?_|((with_reducible apply A4);conv=>whnf)|((with_reducible first|apply O1|apply O0);(·exact hL _);(try rintro _ _ ⟨rfl,rfl⟩))|((with_reducible apply O2);(·exact hL _))|refine⟨λ_=>?_,λ_=>?_⟩|fail
   all_goals first|exact⟨rfl,rfl⟩|(exfalso;omega)
 |none=>
  have hge:=F2.1 hi
  have hil2:(es.length:Int)<=(i:Int):=by omega
  rw[List.drop_of_length_le (by omega)] at i3
  have i3:t7 rs=0:=i3.symm
  rw[H0 (by omega)] at i2
  rw[if_pos i3,<- i2] at hq
  obtain⟨kd,hkd,hRR⟩:=hR w (by rw[i2,D3];omega) (by rw[i2];exact hrb) (w7 (E6 w).isEmpty .nil (.sl (E6 w))) (by rw[show(w7 (E6 w).isEmpty .nil (.sl (E6 w)):D)=ng true (E6 w) by cases E6 w<;>rfl];exact C7)
  rw[<- hA] at hRR
  obtain⟨⟨k,er⟩,hk⟩:∃z,z=I1 K o w:=⟨_,rfl⟩
  rw[<- hk] at hRR hq hkd
  unfold ndR at hq
  dsimp only at hRR hq hkd
  have hkl:=G4 k.ks
  clear hk hi g1 ih hrg hR happ hne hA hrb
  by_cases hr:er=0
  ·subst hr
   rw[if_pos rfl] at hq
   have hsk:=hkd rfl
   obtain⟨ek,hek⟩:∃z,z=A5 k.ks:=⟨_,rfl⟩
   rw[<- hek] at hsk hkl
   by_cases hz:k.ks.length=0
   ·rw[if_pos (.inl hz)] at hq
    subst hq
    have hz2:(ek.length:Int)<1:=by omega
    clear hkd hek hqs
    repeat' first|refine st ?_|((with_reducible apply A4);conv=>whnf)|refine⟨λ_=>?_,λ_=>?_⟩|fail
    all_goals first|exact⟨rfl,rfl⟩|(exfalso;omega)
   ·by_cases hz2:48<k.ks.length
    ·rw[if_pos (.inr hz2)] at hq
     subst hq
     have hz3:¬(ek.length:Int)<1:=by omega
     have hz4:(48:Int)<(ek.length:Int):=by omega
     clear hkd hek hqs
     repeat' first|refine st ?_|((with_reducible apply A4);conv=>whnf)|refine⟨λ_=>?_,λ_=>?_⟩|fail
     all_goals first|exact⟨rfl,rfl⟩|(exfalso;omega)
    ·rw[if_neg (by omega)] at hq
     subst hq
     have hz3:¬(ek.length:Int)<1:=by omega
     have hz4:(ek.length:Int)<=48:=by omega
     have hqs:=hqs rfl
     have hqs:Kw.d (k,(0:Int)).1=.sl (A5 k.ks):=hqs
     have hkk:kd=.sl ek:=by
      rcases hsk with ⟨_,h⟩|h
      ·rw[h] at hz3;simp at hz3
      ·exact h
     rw[hqs,<- hek]
     subst hkk
     clear hkd hek hqs hsk
     repeat' first|refine st ?_|((with_reducible apply A4);conv=>whnf)|refine⟨λ_=>?_,λ_=>?_⟩|fail
     all_goals first|exact⟨rfl,rfl⟩|(exfalso;omega)
  ·rw[if_neg hr] at hq
   subst hq
   clear hkd hqs
   repeat' first|refine st ?_|((with_reducible apply A4);conv=>whnf)|refine⟨λ_=>?_,λ_=>?_⟩|fail
   all_goals first|exact⟨rfl,rfl⟩|(exfalso;omega)
theorem A3y(K:List Kw)(hK:K.length<=4294967296)(hKb:∀k∈K,k.ks.length<=4294967296)(din:D)(hin:B0 din (E6 K))(p:Pl)(hb:p.bk<=1073741824) :
  Pure Tryz.prog C0u [p.av,.d din] (.tup [.d (B9 K p).1.d,.d (eI (B9 K p).2)]):=by
 have hD:=C7P p hb 24 (D4 _)
 have hN:=C62 K hK hKb din hin p hb
 have hsl:=@C3X K p
 have hln:=m9 K p
 obtain⟨q,hq⟩:∃q,q=B9 K p:=⟨_,rfl⟩
 rw[<- hq]
 unfold B9 at hq
 have hF:∀c0:List AV,C0 Tryz.prog A15 [p.av,.ptr 2 0,.ptr 1 0] [.cells c0,.cells [.d din],.cells [.clo A15 [2,1]]] (λr os=>r=.tup [.d (C4 K p).1.d,.d (eI (C4 K p).2)]/\os=[.cells c0,.cells [.d din],.cells [.clo A15 [2,1]]]):=λc0=>by
  have:=C0.frame (K:=λr os=>r=.tup [.d (C4 K p).1.d,.d (eI (C4 K p).2)]/\os=[.cells c0,.cells [.d din],.cells [.clo A15 [2,1]]]) hN [2,1] [.cells c0,.cells [.d din],.cells [.clo A15 [2,1]]] rfl (by decide) (λi o h=>by
   match i,h with
   |0,h=>cases h;rfl
   |1,h=>cases h;rfl
   |i+2,h=>simp at h) (λa ha=>by
    simp only[I2,V6,or_false] at ha
    rcases ha with rfl|rfl|rfl
    ·exact w9 _ _
    ·simp[AV.bnd2,AV.bnd1]
    ·simp[AV.bnd2,AV.bnd1]) (λo ho=>by
    simp only[I2,V6,or_false] at ho
    rcases ho with rfl|rfl<;>simp[AO.bnd,AV.bnd1]) (by rintro r bs' ⟨rfl,rfl⟩;exact⟨rfl,rfl⟩)
  rw[G5,show mG (rn [2,1] [AO.cells c0,.cells [.d din],.cells [.clo A15 [2,1]]].length) p.av=p.av from A1Z _ _] at this
  exact this
 obtain⟨op',n',dk',dr',xo',xn',xv',xm',xd',dx',dy',da',di',c1,c2⟩:=Pl.cut p
 rw[c2] at hD hF ⊢
 obtain⟨t,ht⟩:∃t,t=min (H2 p) (24+1):=⟨_,rfl⟩
 rw[<- ht] at hD
 obtain⟨⟨k,er⟩,hk⟩:∃z,z=C4 K p:=⟨_,rfl⟩
 have herr:=@E05 K p
 rw[<- hk] at hF hq hsl hln herr
 dsimp only at hF hsl hln herr
 have hkl:=G4 k.ks
 have hkm:=I0 k.ks
 by_cases h:24<H2 p
 ·rw[if_pos h] at hq
  subst hq
  have ht:(24:Int)<t:=by omega
  clear hk c1 c2 hsl hF herr
  refine B10.go A6 rfl ?_
  repeat' first|refine st ?_|((with_reducible apply A4);conv=>whnf)|refine⟨λ_=>?_,λ_=>?_⟩|fail
  all_goals rfl
 ·rw[if_neg h] at hq
  subst hq
  have ht:¬(24:Int)<t:=by omega
  by_cases hr:er=0
  ·subst hr
   have hsl:=hsl rfl
   rw[hsl] at hF
   rw[show Kw.d (k,(0:Int)).1=.sl (A5 k.ks) from hsl]
   obtain⟨ek,hek⟩:∃z,z=A5 k.ks:=⟨_,rfl⟩
   rw[<- hek] at hF hkl hkm ⊢
   have hbd:ek.length*8<=140737488355328/\ek.length<=9223372036854775807:=by omega
   clear hk c1 c2 hek hsl herr
   refine B10.go A6 rfl ?_
   repeat' first|refine st ?_|((with_reducible apply A4);conv=>whnf)|((with_reducible first|apply O1|apply O0);(·exact hF _);(try rintro _ _ ⟨rfl,rfl⟩))|((with_reducible apply O2);(·exact hF _))|refine⟨λ_=>?_,λ_=>?_⟩|fail
   all_goals first|rfl|(simp;rfl)
  ·have hk0:=herr hr
   subst hk0
   clear hk c1 c2 hsl herr
   refine B10.go A6 rfl ?_
   repeat' first|refine st ?_|((with_reducible apply A4);conv=>whnf)|((with_reducible first|apply O1|apply O0);(·exact hF _);(try rintro _ _ ⟨rfl,rfl⟩))|((with_reducible apply O2);(·exact hF _))|refine⟨λ_=>?_,λ_=>?_⟩|fail
   all_goals rfl
end Go.Proofs
end
section
namespace Go.Proofs
open Go.Bi
abbrev po0(op n:Int)(pred:Ex):Po:=⟨op,n,true,[],true,[],pred,true,[],true,[],true,[]⟩
abbrev R9(op n:Int)(pred:Ex)(ins:List Pl):Pl:=.mk (po0 op n pred) true ins
theorem A0w(op n xo xn:Int)(xv:Vl)(xm:List UInt8)(xl:Bool)(xa:List Ex)(ins:List Pl):(R9 op n (.mk xo xn xv xm xl xa) ins).av=F3 op n .nil .nil xo xn xv xm (ng xl (xL xa)) .nil .nil .nil (ng true (pL ins)):=by
 rw[Pl.av_eq _ _ _ _ _ _ _ _ _ rfl];rfl
theorem B36(op n xo xn:Int)(xv:Vl)(xm:List UInt8)(xl:Bool)(xa:List Ex)(ins:List Pl):(R9 op n (.mk xo xn xv xm xl xa) ins).ds=N9 op n .nil .nil xo xn xv xm (ng xl (xL xa)) .nil .nil .nil (ng true (pL ins)):=by
 rw[Pl.ds_eq _ _ _ _ _ _ _ _ _ rfl];rfl
theorem C6d:Pure Tryz.prog B1I [.d .nil] (.d .nil):=by
 refine B5n.go A6 rfl ?_
 repeat' first|refine st ?_|((with_reducible apply A4);conv=>whnf)|refine⟨λ_=>?_,λ_=>?_⟩|fail
 all_goals rfl
theorem C6i:Pure Tryz.prog B1E [.d .nil] (.d .nil):=by
 refine B5h.go A6 rfl ?_
 repeat' first|refine st ?_|((with_reducible apply A4);conv=>whnf)|refine⟨λ_=>?_,λ_=>?_⟩|fail
 refine A0X 1 (j8 A6 ?_)
 repeat' first|refine st ?_|((with_reducible apply A4);conv=>whnf)|refine⟨λ_=>?_,λ_=>?_⟩|fail
 all_goals rfl
theorem C3G{g:FuncId}{din:D}{r:AV}{ds:List D}(h:C0 Tryz.prog g [.ptr 0 0,.agg (ds.map .d)] [.cells [.d din]] (λr' os'=>r'=r/\os'=[.cells [.d din]]))(hr:∀f,mA f r=r)(rest:List AO) :
  C0 Tryz.prog g [.ptr 0 0,.agg (ds.map .d)] ([.cells [.d din]]++rest) (λr' os'=>r'=r/\os'=[.cells [.d din]]++rest):=
 C0.pre h rest (by
  intro a ha
  simp only[I2,V6,or_false] at ha
  rcases ha with rfl|rfl
  ·simp[AV.bnd2,AV.bnd1]
  ·exact w9 _ _) (by
  intro o ho
  simp only[I2,V6,or_false] at ho
  subst ho;simp[AO.bnd,AV.bnd1]) (by
  rintro r' bs' ⟨rfl,rfl⟩
  refine⟨rfl,?_,hr,rfl,rfl⟩
  intro o ho
  simp only[I2,V6,or_false] at ho
  subst ho;simp[AO.bnd,AV.bnd1])
theorem B4i(g:FuncId)(Φ:Pl->Pl)(din:D)(op n:Int)(pred:Ex)(hpb:pred.bk<=1073741824)(ins:List Pl)(hil:ins.length<=1073741824)(hf:∀x∈ins,C0 Tryz.prog g [.ptr 0 0,x.av] [.cells [.d din]] (λr os=>r=(Φ x).av/\os=[.cells [.d din]])) :
  C0 Tryz.prog A2i [(R9 op n pred ins).av,.bcl g 0] [.cells [.d din]] (λr os=>r=(R9 op n (A9 0 pred) (ins.map Φ)).av/\os=[.cells [.d din]]):=by
 have hS:=A2S pred hpb 0
 obtain⟨xo,xn,xv,xm,xl,xa⟩:=pred
 obtain⟨e2,he2⟩:∃e,e=A9 0 (.mk xo xn xv xm xl xa):=⟨_,rfl⟩
 rw[<- he2] at hS ⊢
 clear he2
 obtain⟨yo,yn,yv,ym,yl,ya⟩:=e2
 rw[Ex.av_mk,Ex.av_mk] at hS
 rw[A0w,A0w]
 have hdi:B0 (ng true (pL ins)) (pL ins):=C7
 obtain⟨xd,hxd⟩:∃d,d=ng xl (xL xa):=⟨_,rfl⟩
 obtain⟨yd,hyd⟩:∃d,d=ng yl (xL ya):=⟨_,rfl⟩
 obtain⟨di,e6⟩:∃d,d=ng true (pL ins):=⟨_,rfl⟩
 rw[<- hxd,<- hyd] at hS
 rw[<- hxd,<- hyd,<- e6]
 rw[<- e6] at hdi
 clear hxd hyd e6
 have l1:=n7 ins
 have m1:=u7 ins
 have g1:=λi p=>@A0e ins i p
 obtain⟨es,hes⟩:∃z,z=pL ins:=⟨_,rfl⟩
 rw[<- hes] at hdi l1 m1 g1
 clear hes
 have r0:xv.k=xv.k:=rfl
 have r1:xv.s=xv.s:=rfl
 have r2:xm=xm:=rfl
 have r3:yv.s=yv.s:=rfl
 have r4:ym=ym:=rfl
 have hc1:=B45
 have hc2:=C6d
 have hc3:=C6i
 refine B0W.goX A6 rfl ?_
 repeat' first|refine st ?_|((with_reducible apply A4);conv=>whnf)|refine⟨λ_=>?_,λ_=>?_⟩|fail
 refine A0X 1 (j8 A6 ?_)
 repeat' first|refine st ?_|((with_reducible apply A4);conv=>whnf)|refine⟨λ_=>?_,λ_=>?_⟩|fail
 refine A2d 3 14 15 rfl rfl rfl ?_
 refine J5 A6 B1c B19 (λ(i:Nat)=>[.d (eI i)]) (λi=>[.cells [.d din],.cells [.d (eI op),.d (eI n),.d .nil,.d .nil,.d (eI xo),.d (eI xn),.d (eI xv.k),.d (eI xv.n),.d (.str xv.s),.d (.str xm),.d xd,.d .nil,.d .nil,.d .nil,.d di],.cells [.d (eI 0),.d (eI 0),.d .nil,.d .nil,.d (eI 0),.d (eI 0),.d (eI 0),.d (eI 0),.d (.str []),.d (.str []),.d .nil,.d .nil,.d .nil,.d .nil,.d .nil],.cells [.d (eI op),.d (eI n),.d .nil,.d .nil,.d (eI yo),.d (eI yn),.d (eI yv.k),.d (eI yv.n),.d (.str yv.s),.d (.str ym),.d yd,.d .nil,.d .nil,.d .nil,.arr 8 (pL ((ins.take i).map Φ)).length],.hole,.hole,.hole,.hole,.arr (pL ((ins.take i).map Φ)) 15 0 (pL ((ins.take i).map Φ)).isEmpty]) (λi=>i<=ins.length) (λi=>ins.length-i) 0 rfl rfl rfl rfl (λ_ _=>⟨rfl,rfl⟩) rfl (by omega) ?_
 repeat' first|refine st ?_|((with_reducible apply A4);conv=>whnf)|refine⟨λ_=>?_,λ_=>?_⟩|fail
 intro i i1
 have hw1:(pL ((ins.take i).map Φ)).length=i:=by rw[n7,D3,L6];omega
 have hwm:=u7 ((ins.take i).map Φ)
 have hbd:((pL ((ins.take i).map Φ)).length+1)*248<=140737488355328:=by omega
 cases hx:ins[i]? with
 |some p=>
  have hlt:=(B3.1 hx).1
  have hilt:(i:Int)<es.length:=by omega
  have hg:=g1 i p hx
  have hL:=λrest=>C3G (hf p (C3 hx)) (λf=>Q9 f _) rest
  have ht:pL ((ins.take (i+1)).map Φ)=pL ((ins.take i).map Φ)++[(Φ p).ds]:=by rw[L5,hx];simp[pL]
  obtain⟨A,hA⟩:∃z,z=pL ((ins.take i).map Φ):=⟨_,rfl⟩
  rw[<- hA] at hw1 hwm hbd ht ⊢
  obtain⟨op',n',dk',dr',xo',xn',xv',xm',xd',dx',dy',da',di',c1,c2⟩:=Pl.cut p
  obtain⟨op1,n1,dk1,dr1,xo1,xn1,xv1,xm1,xd1,dx1,dy1,da1,di1,c3,c4⟩:=Pl.cut (Φ p)
  have hg:es[((i:Nat):Int).toNat]?=some (N9 op' n' dk' dr' xo' xn' xv' xm' xd' dx' dy' da' di'):=by rw[<- c1];exact hg
  have hL:∀rest,C0 Tryz.prog g [.ptr 0 0,F3 op' n' dk' dr' xo' xn' xv' xm' xd' dx' dy' da' di'] ([.cells [.d din]]++rest) (λr' os'=>r'=F3 op1 n1 dk1 dr1 xo1 xn1 xv1 xm1 xd1 dx1 dy1 da1 di1/\os'=[.cells [.d din]]++rest):=λrest=>by rw[<- c2,<- c4];exact hL rest
  rw[c3] at ht
  clear g1 hx hA hf c1 c2 c3 c4 hS hc1 hc2 hc3
  repeat' first|refine st ?_|((with_reducible apply A4);conv=>whnf)|((with_reducible first|apply O1|apply O0);(·exact hL _);(try rintro _ _ ⟨rfl,rfl⟩))|((with_reducible apply O2);(·exact hL _))|refine⟨λ_=>?_,λ_=>?_⟩|fail
  exact⟨i+1,rfl,rfl,by rw[ht];simp,by omega,by omega⟩
 |none=>
  have hge:=F2.1 hx
  have hilt:(es.length:Int)<=i:=by omega
  rw[H0 hge] at hw1 hwm hbd ⊢
  obtain⟨A,hA⟩:∃z,z=pL (ins.map Φ):=⟨_,rfl⟩
  rw[<- hA] at hw1 hwm hbd ⊢
  clear g1 hx hA hf hS hc1 hc2 hc3
  repeat' first|refine st ?_|((with_reducible apply A4);conv=>whnf)|refine⟨λ_=>?_,λ_=>?_⟩|fail
  all_goals exact⟨by cases A<;>rfl,rfl⟩
end Go.Proofs
end
section
namespace Go.Proofs
open Go.Shelf
def Tryz.lays189_ren:Go.Shelf.Ren:=⟨fun|189=>122|125=>155|257=>154|128=>197|129=>198|294=>188|295=>189|296=>190|297=>191|298=>192|299=>193|216=>194|300=>195|301=>196|328=>219|329=>220|330=>221|331=>222|332=>223|215=>224|343=>234|n=>n,fun|28=>22|3=>3|46=>161|0=>0|51=>185|53=>187|4=>4|183=>178|182=>177|131=>168|5=>5|9=>9|218=>197|222=>201|228=>209|229=>117|n=>n,fun|n=>n⟩
theorem Tryz.lays189:Go.Proofs.Lays.n189 Tryz.prog Tryz.lays189_ren:={
 mixed:=by kernel_rfl
 f125:=Tryz.func155.trans (congrArg some (by kernel_rfl))
 f128:=Tryz.func197.trans (congrArg some (by kernel_rfl))
 f129:=Tryz.func198.trans (congrArg some (by kernel_rfl))
 f189:=Tryz.func122.trans (congrArg some (by kernel_rfl))
 f215:=Tryz.func224.trans (congrArg some (by kernel_rfl))
 f216:=Tryz.func194.trans (congrArg some (by kernel_rfl))
 f257:=Tryz.func154.trans (congrArg some (by kernel_rfl))
 f294:=Tryz.func188.trans (congrArg some (by kernel_rfl))
 f295:=Tryz.func189.trans (congrArg some (by kernel_rfl))
 f296:=Tryz.func190.trans (congrArg some (by kernel_rfl))
 f297:=Tryz.func191.trans (congrArg some (by kernel_rfl))
 f298:=Tryz.func192.trans (congrArg some (by kernel_rfl))
 f299:=Tryz.func193.trans (congrArg some (by kernel_rfl))
 f300:=Tryz.func195.trans (congrArg some (by kernel_rfl))
 f301:=Tryz.func196.trans (congrArg some (by kernel_rfl))
 f328:=Tryz.func219.trans (congrArg some (by kernel_rfl))
 f329:=Tryz.func220.trans (congrArg some (by kernel_rfl))
 f330:=Tryz.func221.trans (congrArg some (by kernel_rfl))
 f331:=Tryz.func222.trans (congrArg some (by kernel_rfl))
 f332:=Tryz.func223.trans (congrArg some (by kernel_rfl))
 f343:=Tryz.func234.trans (congrArg some (by kernel_rfl))
 t0:=Tryz.underlying0
 a0:=Tryz.isAgg0
 z0:=Tryz.sizeOf0
 v0:=Tryz.zeroValue0
 t3:=Tryz.underlying3
 a3:=Tryz.isAgg3
 z3:=Tryz.sizeOf3
 v3:=Tryz.zeroValue3
 t4:=Tryz.underlying4
 a4:=Tryz.isAgg4
 z4:=Tryz.sizeOf4
 v4:=Tryz.zeroValue4
 t5:=Tryz.underlying5
 a5:=Tryz.isAgg5
 z5:=Tryz.sizeOf5
 v5:=Tryz.zeroValue5
 t9:=Tryz.underlying9
 a9:=Tryz.isAgg9
 z9:=Tryz.sizeOf9
 v9:=Tryz.zeroValue9
 t28:=Tryz.underlying22
 a28:=Tryz.isAgg22
 z28:=Tryz.sizeOf22
 v28:=Tryz.zeroValue22
 t46:=Tryz.underlying161
 a46:=Tryz.isAgg161
 z46:=Tryz.sizeOf161
 v46:=Tryz.zeroValue161
 t51:=Tryz.underlying185
 a51:=Tryz.isAgg185
 z51:=Tryz.sizeOf185
 v51:=Tryz.zeroValue185
 t53:=Tryz.underlying187
 a53:=Tryz.isAgg187
 z53:=Tryz.sizeOf187
 v53:=Tryz.zeroValue187
 t131:=Tryz.underlying168
 a131:=Tryz.isAgg168
 z131:=Tryz.sizeOf168
 v131:=Tryz.zeroValue168
 t182:=Tryz.underlying177
 a182:=Tryz.isAgg177
 z182:=Tryz.sizeOf177
 v182:=Tryz.zeroValue177
 t183:=Tryz.underlying178
 a183:=Tryz.isAgg178
 z183:=Tryz.sizeOf178
 v183:=Tryz.zeroValue178
 t218:=Tryz.underlying197
 a218:=Tryz.isAgg197
 z218:=Tryz.sizeOf197
 v218:=Tryz.zeroValue197
 t222:=Tryz.underlying201
 a222:=Tryz.isAgg201
 z222:=Tryz.sizeOf201
 v222:=Tryz.zeroValue201
 t228:=Tryz.underlying209
 a228:=Tryz.isAgg209
 z228:=Tryz.sizeOf209
 v228:=Tryz.zeroValue209
 t229:=Tryz.underlying117
 a229:=Tryz.isAgg117
 z229:=Tryz.sizeOf117
 v229:=Tryz.zeroValue117}
def Tryz.laysNm220_ren:Go.Shelf.Ren:=⟨fun|20=>123|n=>n,fun|22=>22|3=>3|4=>4|0=>0|n=>n,fun|n=>n⟩
theorem Tryz.laysNm220:Go.Proofs.Lays2.n20 Tryz.prog Tryz.laysNm220_ren:={
 mixed:=by kernel_rfl
 f20:=Tryz.func123.trans (congrArg some (by kernel_rfl))
 t0:=Tryz.underlying0
 a0:=Tryz.isAgg0
 z0:=Tryz.sizeOf0
 v0:=Tryz.zeroValue0
 t3:=Tryz.underlying3
 a3:=Tryz.isAgg3
 z3:=Tryz.sizeOf3
 v3:=Tryz.zeroValue3
 t4:=Tryz.underlying4
 a4:=Tryz.isAgg4
 z4:=Tryz.sizeOf4
 v4:=Tryz.zeroValue4
 t22:=Tryz.underlying22
 a22:=Tryz.isAgg22
 z22:=Tryz.sizeOf22
 v22:=Tryz.zeroValue22
 i3:=by kernel_rfl}
end Go.Proofs
end
section
namespace Go.Proofs
open Go.Bi
theorem D8q:Bi.Enters Tryz.prog B1L:=⟨_,Tryz.func122,by kernel_rfl,by decide⟩
theorem D8p:Bi.Enters Tryz.prog B1J:=⟨_,Tryz.func123,by kernel_rfl,by decide⟩
def srt(zs:List Int):List Int:=zs.mergeSort λx y=>decide (x<=y)
theorem C52(zs:List Int):(srt zs).length=zs.length:=by simp[srt]
def C1Z(zs:List Int):List Int:=Lib.compact zs++List.replicate (zs.length-(Lib.compact zs).length) 0
theorem C1w(n:Nat)(es:List (List D))(sz frz:Nat)(nl:Bool):(AO.arr es sz frz nl).bnd n:=by simp[AO.bnd]
theorem C7O(zs:List Int)(nl:Bool)(hz:zs.length<4611686018427387904){os:List AO}{id:Nat}(ho:os[id]?=some (.arr (A5 zs) 1 0 nl)) :
  C0 Tryz.prog B1L [.arr id (A5 zs).length] os (λr os'=>r=.tup []/\os'=os.set id (.arr (A5 (srt zs)) 1 0 nl)):=
 C3D (λid=>[.arr id (A5 zs).length]) (E23 Tryz.lays189 D8q zs nl hz) (λ_=>rfl) (λ_=>rfl) (λ_=>rfl) (λ_ _=>rfl) (by simp[AV.bnd2,AV.bnd1]) (C1w ..) ho
theorem C7N(zs:List Int)(nl:Bool)(hz:zs.length<=9223372036854775807){os:List AO}{id:Nat}(ho:os[id]?=some (.arr (A5 zs) 1 0 nl)) :
  C0 Tryz.prog B1J [.arr id (A5 zs).length] os (λr os'=>r=.d (if nl then .nil else .sl (A5 (Lib.compact zs)))/\os'=os.set id (.arr (A5 (C1Z zs)) 1 (if nl then 0 else (Lib.compact zs).length) nl)):=
 C3D (λid=>[.arr id (A5 zs).length]) (D80 Tryz.laysNm220 D8p zs nl hz) (λ_=>rfl) (λ_=>rfl) (λ_=>rfl) (λ_ _=>rfl) (by simp[AV.bnd2,AV.bnd1]) (C1w ..) ho
mutual
def K5:Ex->List Int
 |.mk op n v nm nl args=>(if op=2 then [n] else [])++A7I args
def A7I:List Ex->List Int
 |[]=>[]
 |a::l=>K5 a++A7I l
end
theorem C4u:∀l,A7I l=l.flatMap K5
 |[]=>by simp[A7I]
 |a::l=>by simp[A7I,C4u l]
theorem A4S(op n:Int)(v:Vl)(nm:List UInt8)(nl:Bool)(args:List Ex):K5 (.mk op n v nm nl args)=(if op=2 then [n] else [])++args.flatMap K5:=by rw[K5,C4u]
theorem C33{l:List Ex}{f:Ex->List Int}(h:∀a∈l,(f a).length<=a.bk):(l.flatMap f).length<=D5 (xL l):=by
 induction l with
 |nil=>simp
 |cons a l ih=>
  have h1:=h a (by simp)
  have h2:=ih λb hb=>h b (by simp[hb])
  rw[A55,H3]
  simp only[xL,G5,D5]
  unfold Ex.bk at h1
  unfold xL at h2
  omega
theorem A9X:∀e:Ex,(K5 e).length<=e.bk:=by
 refine Ex.ind λop n v nm nl args ih=>?_
 have hb:=Ex.bk_mk op n v nm nl args
 have:=C33 ih
 rw[A4S,H3]
 split<;>simp only[H7,k9]<;>omega
def own(op n:Int):List Int:=if op=2 then [n] else []
theorem D8i(a b:List Int):A5 (a++b)=A5 a++A5 b:=by simp[A5]
theorem C63(op n:Int)(v:Vl)(nm:List UInt8)(d:D)(zs:List Int)(hz:zs.length<=4294967296) :
  C0 Tryz.prog A5a [eX op n v nm d,.ptr 0 0] [.cells [.arr 1 (A5 zs).length],.arr (A5 zs) 1 0 (A5 zs).isEmpty] (λr os=>r=.tup []/\os=[.cells [.arr 1 (A5 (zs++own op n)).length],.arr (A5 (zs++own op n)) 1 0 (A5 (zs++own op n)).isEmpty]):=by
 obtain⟨b,hb⟩:∃b,b=(A5 zs).isEmpty:=⟨_,rfl⟩
 rw[<- hb]
 have hl:=G4 zs
 unfold own
 by_cases h:op=2
 ·rw[if_pos h,D8i]
  have e1:(A5 zs++A5 [n]).isEmpty=false:=by simp[A5]
  rw[e1]
  refine B5a.goX A6 rfl ?_
  repeat' first|refine st ?_|refine⟨λ_=>?_,λ_=>?_⟩|fail
  all_goals exact⟨rfl,by simp[A5]⟩
 ·rw[if_neg h,W2,<- hb]
  refine B5a.goX A6 rfl ?_
  repeat' first|refine st ?_|refine⟨λ_=>?_,λ_=>?_⟩|fail
  all_goals exact⟨rfl,rfl⟩
theorem A7q{α:Type}{x a b:α}(h:x∈[a,b]):x=a\/x=b:=by simpa using h
theorem C4q{g:FuncId}{ds:List D}{a:AV}(ha:a.bnd2 2){zs ys:List Int}(h:C0 Tryz.prog g [.agg (ds.map .d),a] [.cells [.arr 1 (A5 zs).length],.arr (A5 zs) 1 0 (A5 zs).isEmpty] (λr os=>r=.tup []/\os=[.cells [.arr 1 (A5 ys).length],.arr (A5 ys) 1 0 (A5 ys).isEmpty]))(rest:List AO) :
  C0 Tryz.prog g [.agg (ds.map .d),a] ([.cells [.arr 1 (A5 zs).length],.arr (A5 zs) 1 0 (A5 zs).isEmpty]++rest) (λr os=>r=.tup []/\os=[.cells [.arr 1 (A5 ys).length],.arr (A5 ys) 1 0 (A5 ys).isEmpty]++rest):=by
 refine C0.pre h rest (λx hx=>?_) (λo ho=>?_) ?_
 ·rcases A7q hx with rfl|rfl
  ·exact w9 _ _
  ·exact ha
 ·rcases A7q ho with rfl|rfl<;>simp[AO.bnd,AV.bnd1]
 ·rintro r bs' ⟨rfl,rfl⟩
  refine⟨rfl,λo ho=>?_,λf=>rfl,rfl,rfl⟩
  rcases A7q ho with rfl|rfl<;>simp[AO.bnd,AV.bnd1]
theorem E1s{l:List Ex}{i:Nat}{x:Ex}(h:l[i]?=some x):(l.take (i+1)).flatMap K5=(l.take i).flatMap K5++K5 x:=by
 rw[L5,h];simp
theorem E1r(l:List Ex)(i:Nat):((l.take i).flatMap K5).length<=D5 (xL l):=by
 have h1:((l.take i).flatMap K5).length<=(l.flatMap K5).length:=by
  conv=>rhs;rw[<- A6n i l,List.flatMap_append,H3]
  omega
 have h2:=C33 (l:=l) (f:=K5) (λa _=>A9X a)
 omega
theorem C4v:∀{l:List Ex}{i:Nat}{x:Ex},l[i]?=some x->((l.take i).flatMap K5).length+x.bk<=D5 (xL l)
 |[],i,x,h=>by simp at h
 |a::l,0,x,h=>by
  simp at h
  subst h
  simp only[xL,G5,D5,List.take_zero,List.flatMap_nil,k9]
  unfold Ex.bk
  omega
 |a::l,i+1,x,h=>by
  have:=C4v (l:=l) (i:=i) (x:=x) (by simpa using h)
  have h1:=A9X a
  rw[List.take_succ_cons,A55,H3]
  simp only[xL,G5,D5]
  unfold Ex.bk at *
  unfold xL at this
  omega
theorem C86:∀e:Ex,e.bk<=1073741824->∀zs:List Int,zs.length+e.bk<=2147483648->C0 Tryz.prog A8N [e.av,.clo A5a [0]] [.cells [.arr 1 (A5 zs).length],.arr (A5 zs) 1 0 (A5 zs).isEmpty] (λr os=>r=.tup []/\os=[.cells [.arr 1 (A5 (zs++K5 e)).length],.arr (A5 (zs++K5 e)) 1 0 (A5 (zs++K5 e)).isEmpty]):=by
 refine Ex.ind λop n v nm nl args ih hb zs hz=>?_
 obtain⟨b1,b2,b3,b4⟩:=Ex.bk_bounds hb
 have hbm:=Ex.bk_mk op n v nm nl args
 have hC1:∀rest,C0 Tryz.prog A5a [eX op n v nm (ng nl (xL args)),.ptr 0 0] ([.cells [.arr 1 (A5 zs).length],.arr (A5 zs) 1 0 (A5 zs).isEmpty]++rest) (λr os=>r=.tup []/\os=[.cells [.arr 1 (A5 (zs++own op n)).length],.arr (A5 (zs++own op n)) 1 0 (A5 (zs++own op n)).isEmpty]++rest):=λrest=>
  C4q (ds:=U3 op n v nm (ng nl (xL args))) (by simp[AV.bnd2,AV.bnd1]) (C63 op n v nm _ zs (by omega)) rest
 rw[A4S,<- own,<- S6,Ex.av_mk]
 obtain⟨z1,hz1⟩:∃z,z=zs++own op n:=⟨_,rfl⟩
 have hz1l:z1.length<=zs.length+1:=by
  rw[hz1,H3]
  unfold own
  split<;>simp
 rw[<- hz1] at hC1 ⊢
 have h1:=N1 args
 have hm:=O6 args
 obtain⟨da,hda⟩:∃d,d=ng nl (xL args):=⟨_,rfl⟩
 have hsd:B0 da (xL args):=by rw[hda];exact C7
 rw[<- hda] at hC1 ⊢
 have r0:v.k=v.k:=rfl
 have r1:v.s=v.s:=rfl
 have r2:nm=nm:=rfl
 refine C9U.goX A6 rfl ?_
 obtain⟨e0,he0⟩:∃b,b=(A5 zs).isEmpty:=⟨_,rfl⟩
 rw[<- he0] at hC1 ⊢
 repeat' first|refine st ?_|((with_reducible first|apply O1|apply O0);(·exact hC1 _);(try rintro _ _ ⟨rfl,rfl⟩))|((with_reducible apply O2);(·exact hC1 _))|refine⟨λ_=>?_,λ_=>?_⟩|fail
 refine J5 A6 D3b D1Q (λ(i:Nat)=>[.d (eI i)]) (λi=>[.cells [.arr 1 (A5 (z1++(args.take i).flatMap K5)).length],.arr (A5 (z1++(args.take i).flatMap K5)) 1 0 (A5 (z1++(args.take i).flatMap K5)).isEmpty]++[.cells [.d (eI op),.d (eI n),.d (eI v.k),.d (eI v.n),.d (.str v.s),.d (.str nm),.d da]]) (λi=>i<=args.length) (λi=>args.length-i) 0 rfl rfl rfl (by simp) (λ_ _=>⟨rfl,rfl⟩) rfl (K1 _) ?_
 repeat' first|refine st ?_|refine⟨λ_=>?_,λ_=>?_⟩|fail
 intro i h4
 have hrl:=E1r args i
 cases hx:args[i]? with
 |some x=>
  have hlt:=(B3.1 hx).1
  have hgx:=b9 hx
  have hxm:=C3 hx
  have hxb:J6 x.ds<=D5 (xL args):=A3N (D9.2 ⟨x,hxm,rfl⟩)
  have hxk:=Ex.bk_arg (op:=op) (n:=n) (v:=v) (name:=nm) (nl:=nl) hxm
  have hs:=E1s hx
  obtain⟨t,ht⟩:∃t,t=z1++(args.take i).flatMap K5:=⟨_,rfl⟩
  have hi:=ih x hxm (b4 x hxm) t (by
   have h0:=C4v hx
   rw[ht,H3]
   omega)
  have hn:z1++(args.take (i+1)).flatMap K5=t++K5 x:=by rw[hs,ht,S6]
  rw[<- hn] at hi
  rw[<- ht]
  have hL:=λrest=>C4q (ds:=x.ds) (by simp[AV.bnd2,AV.bnd1]) hi rest
  obtain⟨e1,he1⟩:∃b,b=(A5 t).isEmpty:=⟨_,rfl⟩
  rw[<- he1] at hL ⊢
  obtain⟨o1,n1,v1,m1,l1,a1⟩:=x
  rw[Ex.ds_mk] at hgx hL
  repeat' first|refine st ?_|((with_reducible first|apply O1|apply O0);(·exact hL _);(try rintro _ _ ⟨rfl,rfl⟩))|((with_reducible apply O2);(·exact hL _))|refine⟨λ_=>?_,λ_=>?_⟩|fail
  exact⟨i+1,rfl,rfl,rfl,by omega,by omega⟩
 |none=>
  have hge:=F2.1 hx
  rw[H0 hge]
  repeat' first|refine st ?_|refine⟨λ_=>?_,λ_=>?_⟩|fail
  all_goals exact⟨rfl,rfl⟩
end Go.Proofs
end
section
namespace Go.Proofs
open Go.Bi
def Asc(l:List Int):Prop:=l.Pairwise (·<·)
theorem C2f(d:Array Int)(hs:∀i j:Nat,i<=j->j<d.size->d[i]!<=d[j]!):∀m,m<=d.size->Asc (Lib.compactUpTo d m)/\∀x,x∈Lib.compactUpTo d m↔∃j,j<m/\d[j]! = x
 |0,_=>by
  refine⟨by simp[Lib.compactUpTo,Asc],λx=>?_⟩
  simp[Lib.compactUpTo]
 |m+1,hm=>by
  obtain⟨h1,h2⟩:=C2f d hs m (by omega)
  rw[Lib.compactUpTo_succ]
  cases hk:Lib.keeps d m with
  |true=>
   rw[if_pos rfl]
   have hk':m=0\/d[m]!≠d[m-1]!:=of_decide_eq_true hk
   constructor
   ·refine A6m.2 ⟨h1,by simp,λx hx y hy=>?_⟩
    simp at hy
    subst hy
    obtain⟨j,hj,rfl⟩:=(h2 x).1 hx
    have q1:=hs j (m-1) (by omega) (by omega)
    have q2:=hs (m-1) m (by omega) (by omega)
    rcases hk' with h0|hne
    ·omega
    ·omega
   ·intro x
    rw[L9,h2]
    constructor
    ·rintro(⟨j,hj,e⟩|hx)
     ·exact⟨j,by omega,e⟩
     ·simp at hx;exact⟨m,by omega,hx.symm⟩
    ·rintro⟨j,hj,e⟩
     rcases Nat.lt_succ_iff_lt_or_eq.1 hj with h|rfl
     ·exact .inl ⟨j,h,e⟩
     ·exact .inr (by simp[e])
  |false=>
   rw[if_neg (by decide),W2]
   have hk':¬(m=0\/d[m]!≠d[m-1]!):=of_decide_eq_false hk
   refine⟨h1,λx=>?_⟩
   rw[h2]
   constructor
   ·rintro⟨j,hj,e⟩;exact⟨j,by omega,e⟩
   ·rintro⟨j,hj,e⟩
    rcases Nat.lt_succ_iff_lt_or_eq.1 hj with h|rfl
    ·exact⟨j,h,e⟩
    ·have q1:¬j=0:=λe=>hk' (.inl e)
     have q2:d[j]! = d[j-1]!:=Classical.byContradiction λe=>hk' (.inr e)
     exact⟨j-1,by omega,by rw[<- q2];exact e⟩
theorem C2h(zs:List Int):Asc (Lib.compact (srt zs))/\∀x,x∈Lib.compact (srt zs)↔x∈zs:=by
 have hp:(srt zs).Pairwise λa b=>a<=b:=by
  have:=List.pairwise_mergeSort (le:=λx y:Int=>decide (x<=y)) (by intro a b c h1 h2;simp at *;omega) (by intro a b;simp;omega) zs
  refine this.imp λh=>?_
  simpa using h
 have hsz:(srt zs).toArray.size=(srt zs).length:=by simp
 have hget:∀i,i<(srt zs).length->(srt zs).toArray[i]! = (srt zs).getD i 0:=by
  intro i hi
  rw[getElem!_pos _ i (by simpa using hi),H6,F1 hi]
  simp
 have hs:∀i j:Nat,i<=j->j<(srt zs).toArray.size->(srt zs).toArray[i]!<=(srt zs).toArray[j]!:=by
  intro i j hij hj
  rw[hsz] at hj
  rw[hget i (by omega),hget j hj]
  rcases Nat.lt_or_ge i j with h|h
  ·have:=List.pairwise_iff_getElem.1 hp i j (by omega) hj h
   rw[H6,H6,F1 (show i<_ by omega),F1 hj]
   exact this
  ·obtain rfl:i=j:=by omega
   exact A0i _
 obtain⟨h1,h2⟩:=C2f (srt zs).toArray hs (srt zs).length (by simp)
 refine⟨h1,λx=>?_⟩
 unfold Lib.compact
 rw[h2]
 have hmem:x∈srt zs↔x∈zs:=by unfold srt;exact List.mem_mergeSort
 rw[<- hmem,List.mem_iff_getElem?]
 constructor
 ·rintro⟨j,hj,e⟩
  refine⟨j,?_⟩
  rw[hget j hj,H6,F1 hj] at e
  rw[F1 hj]
  exact congrArg some e
 ·rintro⟨j,e⟩
  have hj:=(B3.1 e).1
  refine⟨j,hj,?_⟩
  rw[hget j hj,H6,e];rfl
def U8(e:Ex):List Int:=Lib.compact (srt (K5 e))
def A1c(e:Ex):D:=if (A5 (K5 e)).isEmpty then .nil else .sl (A5 (U8 e))
theorem C2e(e:Ex):Asc (U8 e):=(C2h (K5 e)).1
theorem A9c(e:Ex)(x:Int):x∈U8 e↔x∈K5 e:=(C2h (K5 e)).2 x
theorem B2b(e:Ex):(U8 e).length<=e.bk:=by
 have h1:=C2g (srt (K5 e))
 have h2:=C52 (K5 e)
 have h3:=A9X e
 unfold U8
 omega
theorem C2d(e:Ex):B0 (A1c e) (A5 (U8 e)):=by
 unfold A1c
 split
 ·rename_i h
  have:K5 e=[]:=by
   cases hx:K5 e with
   |nil=>rfl
   |cons a l=>rw[hx] at h;cases h
  refine .inl ⟨rfl,?_⟩
  have hc:U8 e=[]:=by
   rw[List.eq_nil_iff_forall_not_mem]
   intro x hx
   rw[A9c,this] at hx
   cases hx
  rw[hc];rfl
 ·exact .inr rfl
theorem B0C(e:Ex)(he:e.bk<=1073741824):Pure Tryz.prog C05 [e.av] (.d (A1c e)):=by
 have hv:=C86 e he [] (by simp;omega)
 rw[A0J] at hv
 have hrl:=A9X e
 unfold A1c U8
 obtain⟨zs,hzs⟩:∃z,z=K5 e:=⟨_,rfl⟩
 rw[<- hzs] at hv hrl ⊢
 have hb:∀ds:List D,C0 Tryz.prog A8N [.agg (ds.map .d),.clo A5a [0]] [.cells [.arr 1 0],.arr [] 1 0 true] (λr os=>r=.tup []/\os=[.cells [.arr 1 (A5 zs).length],.arr (A5 zs) 1 0 (A5 zs).isEmpty])->∀E:List AV,C0 Tryz.prog A8N [.agg (ds.map .d),.clo A5a [1]] [.cells E,.cells [.d .nil]] (λr os=>r=.tup []/\os=[.cells E,.cells [.arr 2 (A5 zs).length],.arr (A5 zs) 1 0 (A5 zs).isEmpty]):=by
  intro ds hE E
  refine C0.nilc 1 0 1 rfl (cs:=[.d .nil]) rfl rfl ?_
  have:=C0.frame (K:=λr os=>r=.tup []/\os=[.cells E,.cells [.arr 2 (A5 zs).length],.arr (A5 zs) 1 0 (A5 zs).isEmpty]) hE [1,2] [.cells E,.cells [.arr 2 0],.arr [] 1 0 true] rfl (by decide) (λi o h=>by
   match i,h with
   |0,h=>cases h;rfl
   |1,h=>cases h;rfl
   |i+2,h=>simp at h) (λa ha=>by
    rcases A7q ha with rfl|rfl
    ·exact w9 _ _
    ·simp[AV.bnd2,AV.bnd1]) (λo ho=>by
    rcases A7q ho with rfl|rfl<;>simp[AO.bnd,AV.bnd1]) (by rintro r bs' ⟨rfl,rfl⟩;exact⟨rfl,rfl⟩)
  rw[G5,G5,V5,A1Z] at this
  exact this
 have hB:=hb e.ds hv
 obtain⟨op,n,v,nm,nl,args⟩:=e
 rw[Ex.ds_mk] at hB
 rw[Ex.av_mk]
 obtain⟨b,hbb⟩:∃b,b=(A5 zs).isEmpty:=⟨_,rfl⟩
 rw[<- hbb] at hB ⊢
 have s1:∀(os:List AO) (id:Nat),os[id]?=some (.arr (A5 zs) 1 0 b)->C0 Tryz.prog B1L [.arr id (A5 zs).length] os (λr os'=>r=.tup []/\os'=os.set id (.arr (A5 (srt zs)) 1 0 b)):=λos id ho=>C7O zs b (by omega) ho
 have hsl:=C52 zs
 have hle:(A5 zs).length=(A5 (srt zs)).length:=by rw[G4,G4,hsl]
 have s2:∀(os:List AO) (id:Nat),os[id]?=some (.arr (A5 (srt zs)) 1 0 b)->C0 Tryz.prog B1J [.arr id (A5 zs).length] os (λr os'=>r=.d (if b then .nil else .sl (A5 (Lib.compact (srt zs))))/\os'=os.set id (.arr (A5 (C1Z (srt zs))) 1 (if b then 0 else (Lib.compact (srt zs)).length) b)):=λos id ho=>by rw[hle];exact C7N (srt zs) b (by omega) ho
 refine C9y.go A6 rfl ?_
 cases b with
 |true=>
  repeat' first|(with_reducible apply B2I)|refine st ?_|((with_reducible first|apply O1|apply O0);(·first|exact hB _|exact s1 _ _ rfl|exact s2 _ _ rfl);(try rintro _ _ ⟨rfl,rfl⟩))|((with_reducible apply O2);(·first|exact hB _|exact s1 _ _ rfl|exact s2 _ _ rfl))|refine⟨λ_=>?_,λ_=>?_⟩|fail
  all_goals rfl
 |false=>
  repeat' first|(with_reducible apply B2I)|refine st ?_|((with_reducible first|apply O1|apply O0);(·first|exact hB _|exact s1 _ _ rfl|exact s2 _ _ rfl);(try rintro _ _ ⟨rfl,rfl⟩))|((with_reducible apply O2);(·first|exact hB _|exact s1 _ _ rfl|exact s2 _ _ rfl))|refine⟨λ_=>?_,λ_=>?_⟩|fail
  all_goals rfl
end Go.Proofs
end
