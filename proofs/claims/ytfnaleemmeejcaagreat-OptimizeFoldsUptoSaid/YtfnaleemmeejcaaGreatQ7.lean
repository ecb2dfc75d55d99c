/- Texts of this claim, joined. No condition. -/
import Derived.Test.YtfnaleemmeejcaaGreatQ6
import Derived.Shelf.Sort.Plain
import Derived.Ground.Names2Prog
import Derived.Shelf.Slices.CompactI
import Derived.Test.YtfnaleemmeejcaaGreatProg
set_option linter.unusedSimpArgs false
set_option linter.unusedVariables false
set_option maxRecDepth 10000
set_option maxHeartbeats 4000000
section
namespace Go.Proofs
open Go.Bi
theorem vaF_e(nk:Bool)(ki:List Int)(rows:List Rw):(vaF nk ki rows).2=vaE ki rows:=by
 unfold vaF vaE
 by_cases c1:4096<rows.length
 ·rw[if_pos c1,if_pos c1]
 ·rw[if_neg c1,if_neg c1]
  cases c2:ki.all kdB with
  |false=>rfl
  |true=>
   rw[if_pos rfl,if_pos rfl]
   cases c3:rows.all (λr=>fits r.vs ki)<;>rfl
theorem eqE_e(a b:Kw):(if a.ks.length=b.ks.length then (if a.ks=b.ks then (a,(0:Int)) else (kw0,7)) else (kw0,13)).2=eqE a.ks b.ks:=by
 unfold eqE
 by_cases c1:a.ks.length=b.ks.length
 ·rw[if_pos c1,if_pos c1]
  by_cases c2:a.ks=b.ks
  ·rw[if_pos c2,if_pos c2]
  ·rw[if_neg c2,if_neg c2]
 ·rw[if_neg c1,if_neg c1]
theorem C.snapshot_operator(K:List Kw)(hK:K.length<=4194304)(hKb:∀k∈K,k.ks.length<=4194304)(din:D)(hin:SlD din (eKw K))(o:Po)(ni:Bool)(ins:List Pl)(hb:(Pl.mk o ni ins).bk<=1048576)(k:List Kw)(hk:(k.length:Int)=inN o.op)(hkb:∀x∈k,x.ks.length<=48)(dkk:D)(hdk:SlD dkk (eKw k)) :
  ∃kd,((resF K o k).2=0->SlD kd (eIs (resF K o k).1.ks))/\Pure Tryz.prog N.snapshot_operator [(Pl.mk o ni ins).av,.d din,.d dkk] (.tup [.d kd,.d (eI (resF K o k).2)]):=by
 have hB:=Pl.bd hb
 obtain⟨xo,xn,xv,xm,xd,hav,hpa⟩:=Pl.cuto o ni ins
 rw[hav]
 clear hav hb
 obtain⟨op,n,nk,ki,nr,rows,pred,nx,xs,ny,keys,na,aggs⟩:=o
 have hki:=hB.ki
 have hrl:=hB.nr
 have hrb:=hB.row
 have hpb:=hB.pred
 have hxl:=hB.xs
 have hxb:=hB.xb
 have hyl:=hB.keys
 have hal:=hB.aggs
 clear hB
 dsimp only at hki hrl hrb hpb hxl hxb hyl hal hpa hk
 have hva:=λdx dy da di=>C.snapshot_values nk ki hki _ rfl rows hrl hrb (ng nr (eRs rows)) sld_ng op n xo xn xv xm xd dx dy da di
 have hpj:=λ(ks:List Int) (h:ks.length<=1048576) dk hdk=>C.snapshot_projected ks h dk hdk xs hxl hxb (ng nx (xL xs)) sld_ng
 have hgr:=λ(ks:List Int) (h:ks.length<=1048576) dk hdk=>C.snapshot_grouped ks h dk hdk keys hyl (ng ny (eIs keys)) sld_ng aggs hal (ng na (eAs aggs)) sld_ng
 have hpr:=λ(ks:List Int) (h:ks.length<=1048576) dk hdk=>C.snapshot_predicate ks h dk hdk pred hpb
 rw[hpa] at hpr
 show ∃kd,_/\Bi.Pure Tryz.prog N.snapshot_operator [ePl op n (ng nk (eIs ki)) (ng nr (eRs rows)) xo xn xv xm xd (ng nx (xL xs)) (ng ny (eIs keys)) (ng na (eAs aggs)) (ng ni (pL ins)),.d din,.d dkk] _
 obtain⟨q,hq⟩:∃q,q=resF K ⟨op,n,nk,ki,nr,rows,pred,nx,xs,ny,keys,na,aggs⟩ k:=⟨_,rfl⟩
 rw[<- hq]
 unfold resF at hq
 dsimp only at hq
 obtain⟨dk,e1⟩:∃d,d=ng nk (eIs ki):=⟨_,rfl⟩
 obtain⟨dr,e2⟩:∃d,d=ng nr (eRs rows):=⟨_,rfl⟩
 obtain⟨dx,e3⟩:∃d,d=ng nx (xL xs):=⟨_,rfl⟩
 obtain⟨dy,e4⟩:∃d,d=ng ny (eIs keys):=⟨_,rfl⟩
 obtain⟨da,e5⟩:∃d,d=ng na (eAs aggs):=⟨_,rfl⟩
 obtain⟨di,e6⟩:∃d,d=ng ni (pL ins):=⟨_,rfl⟩
 rw[<- e1,<- e2] at hva
 rw[<- e3] at hpj
 rw[<- e4,<- e5] at hgr
 rw[<- e1,<- e2,<- e3,<- e4,<- e5,<- e6]
 have hva:=hva dx dy da di
 have hskd:SlD dk (eIs ki):=by rw[e1];exact sld_ng
 clear e1 e2 e3 e4 e5 e6 hrl hrb hpb hxl hxb hyl hal hki hpa
 have l1:=eKw_len k
 have m1:=eKw_mem k
 have hops:=inN_case op
 have hg0:0<k.length->∃a,k.getD 0 kw0=a/\a.ks.length<=48/\(eKw k)[(0:Int).toNat]?=some [a.d]:=λh=>by
  obtain⟨a,ha⟩:∃a,k[0]?=some a:=⟨_,List.getElem?_eq_getElem h⟩
  exact⟨a,by rw[List.getD_eq_getElem?_getD,ha];rfl,hkb a (List.mem_of_getElem? ha),eKw_get ha⟩
 have hg1:1<k.length->∃a,k.getD 1 kw0=a/\a.ks.length<=48/\(eKw k)[(1:Int).toNat]?=some [a.d]:=λh=>by
  obtain⟨a,ha⟩:∃a,k[1]?=some a:=⟨_,List.getElem?_eq_getElem h⟩
  exact⟨a,by rw[List.getD_eq_getElem?_getD,ha];rfl,hkb a (List.mem_of_getElem? ha),eKw_get ha⟩
 obtain⟨es,hes⟩:∃z,z=eKw k:=⟨_,rfl⟩
 rw[<- hes] at hdk l1 m1 hg0 hg1
 clear hes hkb
 rcases hops with ⟨rfl,hn⟩|⟨rfl,hn⟩|⟨rfl,hn⟩|⟨rfl,hn⟩|⟨rfl,hn⟩|⟨rfl,hn⟩|⟨rfl,hn⟩|⟨rfl,hn⟩|⟨rfl,hn⟩|⟨rfl,hn⟩|⟨rfl,hn⟩|⟨⟨o1,o2,o3,o4,o5,o6,o7,o8,o9,o10,o11⟩,hn⟩
 all_goals rw[hn] at hk
 ·have hq:q=scF K n:=hq
  clear hva hpj hgr hpr hg0 hg1
  have l2:=eKw_len K
  have m2:=eKw_mem K
  have g2:=λi k=>@eKw_get K i k
  obtain⟨fs,hfs⟩:∃z,z=eKw K:=⟨_,rfl⟩
  rw[<- hfs] at hin l2 m2 g2
  clear hfs
  unfold scF at hq
  by_cases h1:n<0
  ·rw[if_pos (.inl h1)] at hq
   subst hq
   clear g2 hKb
   refine⟨.nil,(by intro h;cases h),?_⟩
   refine F.snapshot_operator.go mixed rfl ?_
   repeat' first|refine st ?_|((with_reducible apply go_i);conv=>whnf)|refine⟨λ_=>?_,λ_=>?_⟩|fail
   all_goals first|rfl|(exfalso;omega)
  by_cases h2:(K.length:Int)<=n
  ·rw[if_pos (.inr h2)] at hq
   subst hq
   clear g2 hKb
   refine⟨.nil,(by intro h;cases h),?_⟩
   refine F.snapshot_operator.go mixed rfl ?_
   repeat' first|refine st ?_|((with_reducible apply go_i);conv=>whnf)|refine⟨λ_=>?_,λ_=>?_⟩|fail
   all_goals first|rfl|(exfalso;omega)
  rw[if_neg (by omega)] at hq
  obtain⟨k',hk'⟩:∃k,K[n.toNat]?=some k:=⟨_,List.getElem?_eq_getElem (by omega)⟩
  have hg:=g2 _ k' hk'
  have hkd:K.getD n.toNat kw0=k':=by rw[List.getD_eq_getElem?_getD,hk'];rfl
  rw[hkd] at hq
  have hC:=C.snapshot_basic k'.ks (hKb k' (List.mem_of_getElem? hk')) k'.d sld_ng
  have hsd:SlD k'.d (eIs k'.ks):=sld_ng
  have h3:n<fs.length:=by omega
  obtain⟨d,hd⟩:∃d,d=k'.d:=⟨_,rfl⟩
  rw[<- hd] at hg hC hsd
  cases hb:k'.ks.all kdB with
  |false=>
   rw[hb] at hC hq
   rw[if_neg (by simp)] at hq
   subst hq
   clear g2 hKb hkd hk' hd
   refine⟨.nil,(by intro h;cases h),?_⟩
   refine F.snapshot_operator.go mixed rfl ?_
   repeat' first|refine st ?_|((with_reducible apply go_i);conv=>whnf)|refine⟨λ_=>?_,λ_=>?_⟩|fail
   all_goals rfl
  |true=>
   rw[hb] at hC hq
   rw[if_pos rfl] at hq
   subst hq
   refine⟨d,λ_=>hsd,?_⟩
   show Bi.Pure Tryz.prog N.snapshot_operator [ePl 1 n dk dr xo xn xv xm xd dx dy da di,.d din,.d dkk] (.tup [.d d,.d (eI 0)])
   clear g2 hKb hkd hk' hd
   refine F.snapshot_operator.go mixed rfl ?_
   repeat' first|refine st ?_|((with_reducible apply go_i);conv=>whnf)|refine⟨λ_=>?_,λ_=>?_⟩|fail
   all_goals rfl
 ·have hq:q=vaF nk ki rows:=hq
  have hqe:q.2=vaE ki rows:=by rw[hq];exact vaF_e nk ki rows
  have hqk:q.2=0->q.1.ks=ki:=by
   rw[hq];unfold vaF
   intro h
   split at h
   ·cases h
   split at h
   ·split at h
    ·rename_i c1 c2 c3;rw[if_neg c1,if_pos c2,if_pos c3]
    ·cases h
   ·cases h
  rw[<- hqe] at hva
  clear hq hqe hpj hgr hpr hg0 hg1
  obtain⟨⟨qn,qk⟩,qe⟩:=q
  dsimp only at hqk hva
  refine⟨dk,λh=>by rw[hqk h];exact hskd,?_⟩
  show Bi.Pure Tryz.prog N.snapshot_operator [ePl 2 n dk dr xo xn xv xm xd dx dy da di,.d din,.d dkk] (.tup [.d dk,.d (eI qe)])
  refine F.snapshot_operator.go mixed rfl ?_
  repeat' first|refine st ?_|((with_reducible apply go_i);conv=>whnf)|refine⟨λ_=>?_,λ_=>?_⟩|fail
  all_goals rfl
 ·obtain⟨a,ha,hal,hg⟩:=hg0 (by omega)
  rw[ha] at hq
  have hq:q=(a,prE a.ks pred):=hq
  have hP:=hpr a.ks (by omega) a.d sld_ng
  have h0:(0:Int)<es.length:=by omega
  have hsd:SlD a.d (eIs a.ks):=sld_ng
  obtain⟨ad,had⟩:∃d,d=a.d:=⟨_,rfl⟩
  rw[<- had] at hP hg hsd
  subst hq
  refine⟨ad,λ_=>hsd,?_⟩
  show Bi.Pure Tryz.prog N.snapshot_operator [ePl 3 n dk dr xo xn xv xm xd dx dy da di,.d din,.d dkk] (.tup [.d ad,.d (eI (prE a.ks pred))])
  obtain⟨pe,hpe⟩:∃d,d=prE a.ks pred:=⟨_,rfl⟩
  rw[<- hpe] at hP ⊢
  clear hva hpj hgr hpr hg0 hg1 had hpe ha
  refine F.snapshot_operator.go mixed rfl ?_
  repeat' first|refine st ?_|((with_reducible apply go_i);conv=>whnf)|refine⟨λ_=>?_,λ_=>?_⟩|fail
  all_goals rfl
 ·obtain⟨a,ha,hal,hg⟩:=hg0 (by omega)
  rw[ha] at hq
  have hq:q=(⟨true,(prjF a.ks xs).1⟩,(prjF a.ks xs).2):=hq
  have hP:=hpj a.ks (by omega) a.d sld_ng
  have h0:(0:Int)<es.length:=by omega
  obtain⟨ad,had⟩:∃d,d=a.d:=⟨_,rfl⟩
  rw[<- had,slD_ng] at hP
  rw[<- had] at hg
  subst hq
  refine⟨ng true (eIs (prjF a.ks xs).1),λ_=>sld_ng,?_⟩
  show Bi.Pure Tryz.prog N.snapshot_operator [ePl 4 n dk dr xo xn xv xm xd dx dy da di,.d din,.d dkk] (.tup [.d (ng true (eIs (prjF a.ks xs).1)),.d (eI (prjF a.ks xs).2)])
  obtain⟨qd,hqd⟩:∃d,d=ng true (eIs (prjF a.ks xs).1):=⟨_,rfl⟩
  obtain⟨qe,hqe⟩:∃d,d=(prjF a.ks xs).2:=⟨_,rfl⟩
  rw[<- hqd,<- hqe] at hP ⊢
  clear hva hpj hgr hpr hg0 hg1 had hqd hqe ha
  refine F.snapshot_operator.go mixed rfl ?_
  repeat' first|refine st ?_|((with_reducible apply go_i);conv=>whnf)|refine⟨λ_=>?_,λ_=>?_⟩|fail
  all_goals rfl
 ·obtain⟨a,ha,hal,hg⟩:=hg0 (by omega)
  rw[ha] at hq
  have hq:q=(a,0):=hq
  have h0:(0:Int)<es.length:=by omega
  have hsd:SlD a.d (eIs a.ks):=sld_ng
  obtain⟨ad,had⟩:∃d,d=a.d:=⟨_,rfl⟩
  rw[<- had] at hg hsd
  subst hq
  refine⟨ad,λ_=>hsd,?_⟩
  show Bi.Pure Tryz.prog N.snapshot_operator [ePl 10 n dk dr xo xn xv xm xd dx dy da di,.d din,.d dkk] (.tup [.d ad,.d (eI 0)])
  clear hva hpj hgr hpr hg0 hg1 had ha
  refine F.snapshot_operator.go mixed rfl ?_
  repeat' first|refine st ?_|((with_reducible apply go_i);conv=>whnf)|refine⟨λ_=>?_,λ_=>?_⟩|fail
  all_goals rfl
 ·obtain⟨a,ha,hal,hg⟩:=hg0 (by omega)
  rw[ha] at hq
  have hq:q=(⟨true,(grpF a.ks keys aggs).1⟩,(grpF a.ks keys aggs).2):=hq
  have hP:=hgr a.ks (by omega) a.d sld_ng
  have h0:(0:Int)<es.length:=by omega
  obtain⟨ad,had⟩:∃d,d=a.d:=⟨_,rfl⟩
  rw[<- had,slD_ng] at hP
  rw[<- had] at hg
  subst hq
  refine⟨ng true (eIs (grpF a.ks keys aggs).1),λ_=>sld_ng,?_⟩
  show Bi.Pure Tryz.prog N.snapshot_operator [ePl 11 n dk dr xo xn xv xm xd dx dy da di,.d din,.d dkk] (.tup [.d (ng true (eIs (grpF a.ks keys aggs).1)),.d (eI (grpF a.ks keys aggs).2)])
  obtain⟨qd,hqd⟩:∃d,d=ng true (eIs (grpF a.ks keys aggs).1):=⟨_,rfl⟩
  obtain⟨qe,hqe⟩:∃d,d=(grpF a.ks keys aggs).2:=⟨_,rfl⟩
  rw[<- hqd,<- hqe] at hP ⊢
  clear hva hpj hgr hpr hg0 hg1 had hqd hqe ha
  refine F.snapshot_operator.go mixed rfl ?_
  repeat' first|refine st ?_|((with_reducible apply go_i);conv=>whnf)|refine⟨λ_=>?_,λ_=>?_⟩|fail
  all_goals rfl
 iterate 2
  ·obtain⟨a,ha,hal,hg⟩:=hg0 (by omega)
   obtain⟨b,hb,hbl,hgb⟩:=hg1 (by omega)
   rw[ha,hb] at hq
   have hq:q=(⟨true,a.ks++b.ks⟩,prE (a.ks++b.ks) pred):=hq
   have hP:=hpr (a.ks++b.ks) (by rw[List.length_append];omega) (CnD (bif (eIs b.ks).isEmpty then bif (eIs a.ks).isEmpty then false else false else false) .nil (.sl ([]++eIs a.ks++eIs b.ks))) (.inr (by rw[show([]:List (List D))++eIs a.ks++eIs b.ks=eIs (a.ks++b.ks) by simp[eIs]];cases(eIs a.ks).isEmpty<;>cases(eIs b.ks).isEmpty<;>rfl))
   have h0:(0:Int)<es.length:=by omega
   have h1:(1:Int)<es.length:=by omega
   have hsa:SlD a.d (eIs a.ks):=sld_ng
   have hsb:SlD b.d (eIs b.ks):=sld_ng
   have ka:=eIs_len a.ks
   have kb:=eIs_len b.ks
   have kma:=eIs_mem a.ks
   have kmb:=eIs_mem b.ks
   obtain⟨ad,had⟩:∃d,d=a.d:=⟨_,rfl⟩
   obtain⟨bd,hbd⟩:∃d,d=b.d:=⟨_,rfl⟩
   rw[<- had] at hg hsa
   rw[<- hbd] at hgb hsb
   subst hq
   obtain⟨pe,hpe⟩:∃d,d=prE (a.ks++b.ks) pred:=⟨_,rfl⟩
   rw[<- hpe] at hP
   refine⟨.sl (eIs (a.ks++b.ks)),λ_=>.inr rfl,?_⟩
   show Bi.Pure Tryz.prog N.snapshot_operator [ePl _ n dk dr xo xn xv xm xd dx dy da di,.d din,.d dkk] (.tup [.d (.sl (eIs (a.ks++b.ks))),.d (eI (prE (a.ks++b.ks) pred))])
   rw[<- hpe]
   rw[show eIs (a.ks++b.ks)=[]++eIs a.ks++eIs b.ks by simp[eIs]]
   obtain⟨ea,hea⟩:∃z,z=eIs a.ks:=⟨_,rfl⟩
   obtain⟨eb,heb⟩:∃z,z=eIs b.ks:=⟨_,rfl⟩
   rw[<- hea] at hsa ka kma hP ⊢
   rw[<- heb] at hsb kb kmb hP ⊢
   have b1:ea.length*8<=140737488355328/\ea.length<=9223372036854775807:=by omega
   have b2:(ea.length+eb.length)*8<=140737488355328/\ea.length+eb.length<=9223372036854775807:=by omega
   clear hva hpj hgr hpr hg0 hg1 had hbd hpe ha hb hea heb
   refine F.snapshot_operator.go mixed rfl ?_
   repeat' first|refine st ?_|((with_reducible apply go_i);conv=>whnf)|refine⟨λ_=>?_,λ_=>?_⟩|fail
   all_goals (cases ea<;>cases eb<;>rfl)
 iterate 3
  ·obtain⟨a,ha,hal,hg⟩:=hg0 (by omega)
   obtain⟨b,hb,hbl,hgb⟩:=hg1 (by omega)
   rw[ha,hb] at hq
   have hq:q=if a.ks.length=b.ks.length then (if a.ks=b.ks then (a,0) else (kw0,7)) else (kw0,13):=hq
   have hqe:q.2=eqE a.ks b.ks:=by rw[hq];exact eqE_e a b
   have hqk:q.2=0->q.1.ks=a.ks:=by
    rw[hq];intro h
    split at h
    ·split at h
     ·rename_i c1 c2;rw[if_pos c1,if_pos c2]
     ·cases h
    ·cases h
   have hS:=C.snapshot_equal a.ks b.ks (by omega) (by omega) a.d b.d sld_ng sld_ng
   have h0:(0:Int)<es.length:=by omega
   have h1:(1:Int)<es.length:=by omega
   have hsa:SlD a.d (eIs a.ks):=sld_ng
   obtain⟨ad,had⟩:∃d,d=a.d:=⟨_,rfl⟩
   obtain⟨bd,hbd⟩:∃d,d=b.d:=⟨_,rfl⟩
   rw[<- had,<- hbd,<- hqe] at hS
   rw[<- had] at hg hsa
   rw[<- hbd] at hgb
   clear hva hpj hgr hpr hg0 hg1 hbd ha hb hq had hqe
   obtain⟨⟨qn,qk⟩,qe⟩:=q
   dsimp only at hqk hS
   refine⟨ad,λh=>by rw[hqk h];exact hsa,?_⟩
   show Bi.Pure Tryz.prog N.snapshot_operator [ePl _ n dk dr xo xn xv xm xd dx dy da di,.d din,.d dkk] (.tup [.d ad,.d (eI qe)])
   clear hsa hqk hal hbl
   refine F.snapshot_operator.go mixed rfl ?_
   repeat' first|refine st ?_|((with_reducible apply go_i);conv=>whnf)|refine⟨λ_=>?_,λ_=>?_⟩|fail
   all_goals rfl
 ·exfalso;omega
theorem dp_pos:∀p:Pl,1<=dpP p:=by
 intro p
 cases p with
 |mk o ni ins=>show 1<=dpPs ins+1;omega
theorem C.snapshot_depth:∀p:Pl,p.bk<=1048576->∀m:Nat,m<=24->Pure Tryz.prog N.snapshot_depth [p.av,.d (eI m)] (.d (eI (min (dpP p) (m+1):Nat))):=by
 refine Pl.ind λo ni ins ih hb m hm=>?_
 have hB:=Pl.bd hb
 obtain⟨xo,xn,xv,xm,xd,hav,_⟩:=Pl.cuto o ni ins
 have hq:dpP (.mk o ni ins)=dpPs ins+1:=rfl
 have hp1:=dp_pos (.mk o ni ins)
 rw[hav]
 have hdi:SlD (ng ni (pL ins)) (pL ins):=sld_ng
 obtain⟨dk,e1⟩:∃d,d=o.dk:=⟨_,rfl⟩
 obtain⟨dr,e2⟩:∃d,d=o.dr:=⟨_,rfl⟩
 obtain⟨dx,e3⟩:∃d,d=o.dx:=⟨_,rfl⟩
 obtain⟨dy,e4⟩:∃d,d=o.dy:=⟨_,rfl⟩
 obtain⟨da,e5⟩:∃d,d=o.da:=⟨_,rfl⟩
 obtain⟨di,e6⟩:∃d,d=ng ni (pL ins):=⟨_,rfl⟩
 rw[<- e1,<- e2,<- e3,<- e4,<- e5,<- e6]
 rw[<- e6] at hdi
 clear e1 e2 e3 e4 e5 e6 hav
 have l1:=pL_len ins
 have m1:=pL_mem ins
 have g1:=λi p=>@pL_get ins i p
 obtain⟨es,hes⟩:∃z,z=pL ins:=⟨_,rfl⟩
 rw[<- hes] at hdi l1 m1 g1
 clear hes
 obtain⟨q,hqq⟩:∃q,q=min (dpP (.mk o ni ins)) (m+1):=⟨_,rfl⟩
 rw[<- hqq]
 rw[hq] at hqq
 have hil:=hB.il
 have hsub:=hB.sub
 clear hB hb
 by_cases h0:m=0
 ·subst h0
  have:q=1:=by omega
  subst this
  clear g1 ih
  refine F.snapshot_depth.go mixed rfl ?_
  repeat' first|refine st ?_|((with_reducible apply go_i);conv=>whnf)|refine⟨λ_=>?_,λ_=>?_⟩|fail
  all_goals rfl
 obtain⟨m',rfl⟩:∃m',m=m'+1:=⟨m-1,by omega⟩
 refine F.snapshot_depth.go mixed rfl ?_
 repeat' first|refine st ?_|((with_reducible apply go_i);conv=>whnf)|refine⟨λ_=>?_,λ_=>?_⟩|fail
 refine x_loop1 mixed Lt.snapshot_depth_l0 Lk.snapshot_depth_l0 (λ(i:Nat)=>[.d (eI (min (dpPs (ins.take i)) (m'+1):Nat)),.d (eI i)]) (λi=>[.cells [.d (eI o.op),.d (eI o.n),.d dk,.d dr,.d (eI xo),.d (eI xn),.d (eI xv.k),.d (eI xv.n),.d (.str xv.s),.d (.str xm),.d xd,.d dx,.d dy,.d da,.d di]]) (λi=>i<=ins.length) (λi=>ins.length-i) 0 rfl rfl rfl rfl (λ_ _=>⟨rfl,rfl⟩) rfl (by omega) ?_
 repeat' first|refine st ?_|((with_reducible apply go_i);conv=>whnf)|refine⟨λ_=>?_,λ_=>?_⟩|fail
 intro i i1
 cases hx:ins[i]? with
 |some p=>
  have hlt:=(List.getElem?_eq_some_iff.1 hx).1
  have hilt:(i:Int)<es.length:=by omega
  have hg:=g1 i p hx
  have hI:=ih p (List.mem_of_getElem? hx) (hsub p (List.mem_of_getElem? hx)) m' (by omega)
  have htk:=dpPs_take hx
  obtain⟨op',n',dk',dr',xo',xn',xv',xm',xd',dx',dy',da',di',c1,c2⟩:=Pl.cut p
  have hg:es[((i:Nat):Int).toNat]?=some (ePld op' n' dk' dr' xo' xn' xv' xm' xd' dx' dy' da' di'):=by rw[<- c1];exact hg
  rw[c2] at hI
  obtain⟨u,hu⟩:∃u,u=dpPs (ins.take i):=⟨_,rfl⟩
  obtain⟨v,hv⟩:∃u,u=dpP p:=⟨_,rfl⟩
  rw[<- hu,<- hv] at htk
  rw[<- hv] at hI
  rw[<- hu]
  have hI:Bi.Pure Tryz.prog N.snapshot_depth [ePl op' n' dk' dr' xo' xn' xv' xm' xd' dx' dy' da' di',.d (eI (((m'+1:Nat):Int)-1))] (.d (eI (min v (m'+1):Nat))):=by
   rw[show(((m'+1:Nat):Int)-1)=(m':Nat) by omega];exact hI
  clear c1 c2 hx hv ih g1 hu
  repeat' first|refine st ?_|((with_reducible apply go_i);conv=>whnf)|refine⟨λ_=>?_,λ_=>?_⟩|fail
  exact⟨i+1,by rw[htk,show((min (max u v) (m'+1):Nat):Int)=max ((min u (m'+1):Nat):Int) ((min v (m'+1):Nat):Int) by omega];rfl,rfl,rfl,by omega,by omega⟩
 |none=>
  have hge:=List.getElem?_eq_none_iff.1 hx
  have hilt:(es.length:Int)<=i:=by omega
  rw[List.take_of_length_le hge]
  obtain⟨u,hu⟩:∃u,u=dpPs ins:=⟨_,rfl⟩
  rw[<- hu] at hqq ⊢
  have hqi:(q:Int)=((min u (m'+1):Nat):Int)+1:=by omega
  rw[hqi]
  clear hx ih g1 hu
  repeat' first|refine st ?_|((with_reducible apply go_i);conv=>whnf)|refine⟨λ_=>?_,λ_=>?_⟩|fail
  all_goals rfl
end Go.Proofs
end
section
namespace Go.Bi
theorem x_nilc{P:Program}{n nb:Nat}{cd:IC}{N:Sl->List AO->Prop}{E0:Nat->Sl->List AO->Prop}{R:Sl->List AO->Prop}{L:Sl}{os:List AO}(id off sz:Nat)(hsz:Nat.blt 0 sz=true){cs:List AV}(ho:os[id]?=some (.cells cs))(hn:cs[off]?=some (.d .nil))
  (k:LoopX P n nb cd N E0 R L ((os++[AO.arr [] sz 0 true]).set id (.cells (cs.set off (.arr os.length 0))))):LoopX P n nb cd N E0 R L os:=by
 have hw:=weak_nilc (n:=n) (nb:=nb) (ρ:=ofL L) (os:=os) id off sz (Nat.lt_of_lt_of_le Nat.zero_lt_one (Nat.le_of_ble_eq_true hsz)) ho hn
 refine⟨λcode hc c M G w a hR=>?_⟩
 obtain⟨M',G',hR'⟩:=hw c M G w a hR
 exact k.h code hc c M' G' w a hR'
end Go.Bi
namespace Go.Proofs
open Go.Bi
theorem mG_ds(f:Nat->Nat)(ds:List D):mG f (.agg (ds.map .d))=.agg (ds.map .d):=by
 simp only[mG,List.map_map]
 congr 1
theorem mA_ds(f:Nat->Nat)(ds:List D):mA f (.agg (ds.map .d))=.agg (ds.map .d):=by
 simp only[mA,mG,List.map_map]
 congr 1
theorem bnd_ds(ds:List D)(n:Nat):(AV.agg (ds.map .d)).bnd2 n:=by
 intro c hc
 obtain⟨x,_,rfl⟩:=List.mem_map.1 hc
 trivial
theorem liftA{g:FuncId}(a:AV){x y:D}{r:AV}(ds:List D)(h:CallSpec Tryz.prog g [.agg (ds.map .d),a] [.cells [.d x]] (λr' os'=>r'=r/\os'=[.cells [.d y]]))(a':Nat->AV)(ha:∀id n,mG (rn [id] n) a=a' id)(hba:a.bnd2 1)(hr:∀f,mA f r=r){os:List AO}{id:Nat}(ho:os[id]?=some (.cells [.d x])) :
  CallSpec Tryz.prog g [.agg (ds.map .d),a' id] os (λr' os'=>r'=r/\os'=os.set id (.cells [.d y])):=by
 have:=CallSpec.frame (K:=λr' os'=>r'=r/\os'=os.set id (.cells [.d y])) h [id] os rfl (by simp) (λi o hx=>?_) (λz hz=>?_) (λo hx=>?_) ?_
 ·rw[List.map_cons,List.map_cons,List.map_nil,mG_ds,ha] at this;exact this
 ·cases i with
  |zero=>simp at hx;subst hx;exact ho
  |succ i=>simp at hx
 ·simp only[List.mem_cons,List.not_mem_nil,or_false] at hz
  rcases hz with rfl|rfl
  ·exact bnd_ds _ _
  ·exact hba
 ·cases List.mem_singleton.1 hx
  simp[AO.bnd,AV.bnd1]
 ·rintro _ _ ⟨rfl,rfl⟩
  refine⟨hr _,?_⟩
  simp[putA,mO,mC]
theorem liftP{g:FuncId}{x y:D}{r:AV}{ds:List D}(h:CallSpec Tryz.prog g [.agg (ds.map .d),.ptr 0 0] [.cells [.d x]] (λr' os'=>r'=r/\os'=[.cells [.d y]]))(hr:∀f,mA f r=r){os:List AO}{id:Nat}(ho:os[id]?=some (.cells [.d x])) :
  CallSpec Tryz.prog g [.agg (ds.map .d),.ptr id 0] os (λr' os'=>r'=r/\os'=os.set id (.cells [.d y])):=
 liftA _ _ h (λid=>.ptr id 0) (λid n=>rfl) (by simp[AV.bnd2,AV.bnd1]) hr ho
theorem liftF{g f:FuncId}{x y:D}{r:AV}{ds:List D}(h:CallSpec Tryz.prog g [.agg (ds.map .d),.clo f [0]] [.cells [.d x]] (λr' os'=>r'=r/\os'=[.cells [.d y]]))(hr:∀f,mA f r=r){os:List AO}{id:Nat}(ho:os[id]?=some (.cells [.d x])) :
  CallSpec Tryz.prog g [.agg (ds.map .d),.clo f [id]] os (λr' os'=>r'=r/\os'=os.set id (.cells [.d y])):=
 liftA _ _ h (λid=>.clo f [id]) (λid n=>rfl) (by simp[AV.bnd2,AV.bnd1]) hr ho
mutual
def mapX(φ:Ex->Ex):Ex->Ex
 |.mk op n v nm nl args=>if op=2 then φ (.mk op n v nm true (mapXs φ args)) else .mk op n v nm true (mapXs φ args)
def mapXs(φ:Ex->Ex):List Ex->List Ex
 |[]=>[]
 |a::l=>mapX φ a::mapXs φ l
end
theorem mapXs_eq(φ:Ex->Ex):∀l,mapXs φ l=l.map (mapX φ)
 |[]=>by simp[mapXs]
 |a::l=>by simp[mapXs,mapXs_eq φ l]
theorem mapX_mk(φ:Ex->Ex)(op n:Int)(v:Vl)(nm:List UInt8)(nl:Bool)(args:List Ex):mapX φ (.mk op n v nm nl args)=if op=2 then φ (.mk op n v nm true (args.map (mapX φ))) else .mk op n v nm true (args.map (mapX φ)):=by
 rw[mapX,mapXs_eq]
def Mt(φ:Ex->Ex)(l:List Ex)(i:Nat):List (List D):=xL ((l.take i).map φ)
theorem Mt_len(φ:Ex->Ex)(l:List Ex)(i:Nat)(h:i<=l.length):(Mt φ l i).length=i:=by
 unfold Mt
 rw[xL_len,List.length_map,List.length_take]
 omega
theorem Mt_mem(φ:Ex->Ex)(l:List Ex)(i:Nat):∀e∈Mt φ l i,e.length=7:=xL_mem _
theorem Mt_succ{φ:Ex->Ex}{l:List Ex}{i:Nat}{c:Ex}(h:l[i]?=some c):Mt φ l i++[(φ c).ds]=Mt φ l (i+1):=by
 unfold Mt
 rw[List.take_add_one,h]
 simp[xL]
theorem Mt_end{φ:Ex->Ex}{l:List Ex}{i:Nat}(h:l.length<=i):Mt φ l i=xL (l.map φ):=by
 unfold Mt
 rw[List.take_of_length_le h]
theorem ng_true(l:List (List D)):ng true l=if l.isEmpty then .nil else .sl l:=by unfold ng;rw[Bool.true_and]
theorem C.expr_mapped(g:FuncId)(y:D)(φ:Ex->Ex)(hg:∀x:Ex,CallSpec Tryz.prog g [x.av,.ptr 0 0] [.cells [.d y]] (λr os=>r=(φ x).av/\os=[.cells [.d y]])):∀e:Ex,e.bk<=1048576->CallSpec Tryz.prog N.expr_mapped [e.av,.clo g [0]] [.cells [.d y]] (λr os=>r=(mapX φ e).av/\os=[.cells [.d y]]):=by
 refine Ex.ind λop n v nm nl args ih hb=>?_
 obtain⟨b1,b2,b3,b4⟩:=Ex.bk_bounds hb
 obtain⟨Z,hZ⟩:∃Z,Z=(mapX φ (.mk op n v nm nl args)).av:=⟨_,rfl⟩
 rw[<- hZ]
 rw[mapX_mk] at hZ
 rw[Ex.av_mk]
 refine F.expr_mapped.goX mixed rfl ?_
 have h1:=xL_len args
 have hm:=xL_mem args
 obtain⟨da,hda⟩:∃d,d=ng nl (xL args):=⟨_,rfl⟩
 have hsd:SlD da (xL args):=by rw[hda];exact sld_ng
 rw[<- hda]
 have r0:v.k=v.k:=rfl
 have r1:v.s=v.s:=rfl
 have r2:nm=nm:=rfl
 repeat' first|refine st ?_|refine⟨λ_=>?_,λ_=>?_⟩|fail
 refine x_nil 5 7 rfl rfl ?_
 repeat' first|refine st ?_|refine⟨λ_=>?_,λ_=>?_⟩|fail
 refine x_loop2 mixed Lt.expr_mapped_l0 Lk.expr_mapped_l0 (λ(i:Nat) (w:List (List D)×Bool)=>[.arr 3 w.1.length,.d (eI i)]) (λi w=>[.cells [.d y],.cells [.d (eI op),.d (eI n),.d (eI v.k),.d (eI v.n),.d (.str v.s),.d (.str nm),.d da],.cells [.d (eI 0),.d (eI 0),.d (eI 0),.d (eI 0),.d (.str []),.d (.str []),.d .nil],.arr w.1 7 0 w.2]) (λi w=>i<=args.length/\w.1=Mt (mapX φ) args i/\w.2=w.1.isEmpty) (λi _=>args.length-i) 0 ([],true) rfl rfl rfl rfl (λ_ _ _=>⟨rfl,rfl⟩) rfl ⟨by omega,rfl,rfl⟩ ?_
 repeat' first|refine st ?_|refine⟨λ_=>?_,λ_=>?_⟩|fail
 intro i w ⟨h4,h5,h6⟩
 obtain⟨A,b⟩:=w
 dsimp only at h5 h6 ⊢
 have hAl:A.length=i:=by rw[h5];exact Mt_len _ args i (by omega)
 have hAm:∀e∈A,e.length=7:=by rw[h5];exact Mt_mem _ _ _
 cases hx:args[i]? with
 |some x=>
  have hlt:=(List.getElem?_eq_some_iff.1 hx).1
  have hs:=Mt_succ (φ:=mapX φ) hx
  have hg:=xL_get hx
  have hi:=ih x (List.mem_of_getElem? hx) (b4 x (List.mem_of_getElem? hx))
  rw[<- h5] at hs
  have hL:∀os:List AO,os[0]?=some (.cells [.d y])->CallSpec Tryz.prog N.expr_mapped [x.av,.clo g [0]] os (λr' os'=>r'=(mapX φ x).av/\os'=os.set 0 (.cells [.d y])):=λos ho=>liftF (id:=0) hi (λf=>mA_ds f _) ho
  obtain⟨z,hz⟩:∃z,z=mapX φ x:=⟨_,rfl⟩
  rw[<- hz] at hs hL
  obtain⟨o1,n1,v1,m1,l1,a1⟩:=x
  obtain⟨o2,n2,v2,m2,l2,a2⟩:=z
  rw[Ex.ds_mk] at hg hs
  simp only[Ex.av_mk] at hL
  repeat' first|refine st ?_|((with_reducible first|apply k_nc|apply k_cs);(·exact hL _ rfl);(try rintro _ _ ⟨rfl,rfl⟩))|((with_reducible apply k_pr);(·exact hL _ rfl))|refine⟨λ_=>?_,λ_=>?_⟩|fail
  exact⟨i+1,(A++[xds o2 n2 v2 m2 (ng l2 (xL a2))],false),rfl,rfl,rfl,by omega,by omega,hs,by simp⟩
 |none=>
  have hge:=List.getElem?_eq_none_iff.1 hx
  rw[Mt_end hge] at h5
  have hx':(Ex.mk op n v nm true (args.map (mapX φ))).av=eX op n v nm (if A.isEmpty then .nil else .sl A):=by rw[Ex.av_mk,ng_true,<- h5]
  have hφ:∀os:List AO,os[0]?=some (.cells [.d y])->CallSpec Tryz.prog g [(Ex.mk op n v nm true (args.map (mapX φ))).av,.ptr 0 0] os (λr' os'=>r'=(φ (.mk op n v nm true (args.map (mapX φ)))).av/\os'=os.set 0 (.cells [.d y])):=λos ho=>liftP (id:=0) (hg _) (λf=>mA_ds f _) ho
  rw[<- h6] at hx'
  by_cases h2:op=2
  ·rw[if_pos h2] at hZ
   obtain⟨z,hz⟩:∃z,z=φ (.mk op n v nm true (args.map (mapX φ))):=⟨_,rfl⟩
   rw[<- hz] at hZ hφ
   rw[hx'] at hφ
   obtain⟨o2,n2,v2,m2,l2,a2⟩:=z
   simp only[Ex.av_mk] at hZ hφ
   rw[hZ]
   cases b with
   |true=>
    rw[if_pos rfl] at hφ
    repeat' first|refine st ?_|((with_reducible first|apply k_nc|apply k_cs);(·exact hφ _ rfl);(try rintro _ _ ⟨rfl,rfl⟩))|((with_reducible apply k_pr);(·exact hφ _ rfl))|refine⟨λ_=>?_,λ_=>?_⟩|fail
    all_goals exact⟨rfl,rfl⟩
   |false=>
    rw[if_neg (by simp)] at hφ
    repeat' first|refine st ?_|((with_reducible first|apply k_nc|apply k_cs);(·exact hφ _ rfl);(try rintro _ _ ⟨rfl,rfl⟩))|((with_reducible apply k_pr);(·exact hφ _ rfl))|refine⟨λ_=>?_,λ_=>?_⟩|fail
    all_goals exact⟨rfl,rfl⟩
  ·rw[if_neg h2,hx'] at hZ
   rw[hZ]
   cases b with
   |true=>
    repeat' first|refine st ?_|refine⟨λ_=>?_,λ_=>?_⟩|fail
    all_goals exact⟨rfl,rfl⟩
   |false=>
    repeat' first|refine st ?_|refine⟨λ_=>?_,λ_=>?_⟩|fail
    all_goals exact⟨rfl,rfl⟩
def shC(k:Int):Ex->Ex
 |.mk op n v nm nl args=>.mk op (w64 (n+k)) v nm nl args
def shf(k:Int)(e:Ex):Ex:=mapX (shC k) e
theorem C.Shift_c1(k:Int)(x:Ex):CallSpec Tryz.prog N.expr_Shift_c1 [x.av,.ptr 0 0] [.cells [.d (eI k)]] (λr os=>r=(shC k x).av/\os=[.cells [.d (eI k)]]):=by
 obtain⟨op,n,v,nm,nl,args⟩:=x
 rw[shC,Ex.av_mk,Ex.av_mk]
 refine F.expr_Shift_c1.goX mixed rfl ?_
 repeat' first|refine st ?_|refine⟨λ_=>?_,λ_=>?_⟩|fail
 all_goals exact⟨rfl,rfl⟩
theorem C.expr_Shift(e:Ex)(he:e.bk<=1048576)(k:Int):Pure Tryz.prog N.expr_Shift [e.av,.d (eI k)] (shf k e).av:=by
 have hM:=C.expr_mapped N.expr_Shift_c1 (eI k) (shC k) (C.Shift_c1 k) e he
 have hL:∀os:List AO,os[1]?=some (.cells [.d (eI k)])->CallSpec Tryz.prog N.expr_mapped [e.av,.clo N.expr_Shift_c1 [1]] os (λr' os'=>r'=(mapX (shC k) e).av/\os'=os.set 1 (.cells [.d (eI k)])):=λos ho=>liftF (id:=1) hM (λf=>mA_ds f _) ho
 unfold shf
 obtain⟨z,hz⟩:∃z,z=mapX (shC k) e:=⟨_,rfl⟩
 rw[<- hz] at hL ⊢
 obtain⟨o1,n1,v1,m1,l1,a1⟩:=e
 obtain⟨o2,n2,v2,m2,l2,a2⟩:=z
 simp only[Ex.av_mk] at hL ⊢
 refine F.expr_Shift.go mixed rfl ?_
 repeat' first|refine st ?_|((with_reducible first|apply k_nc|apply k_cs);(·exact hL _ rfl);(try rintro _ _ ⟨rfl,rfl⟩))|((with_reducible apply k_pr);(·exact hL _ rfl))|refine⟨λ_=>?_,λ_=>?_⟩|fail
 all_goals rfl
theorem shf_mk(k op n:Int)(v:Vl)(nm:List UInt8)(nl:Bool)(args:List Ex):shf k (.mk op n v nm nl args)=.mk op (if op=2 then w64 (n+k) else n) v nm true (args.map (shf k)):=by
 unfold shf
 rw[mapX_mk]
 by_cases h:op=2
 ·rw[if_pos h,if_pos h];rfl
 ·rw[if_neg h,if_neg h]
end Go.Proofs
end
section
namespace Go.Bi
theorem mC_id{f:Nat->Nat}{k:Nat}(hf:∀i,i<k->f i=i){c:AV}(h:c.bnd1 k):mC f c=c:=by
 cases c with
 |ptr id off=>simp only[mC];rw[hf id h]
 |aptr id len i off=>simp only[mC];rw[hf id h]
 |arr id len=>simp only[mC];rw[hf id h]
 |clo g caps=>
  simp only[mC]
  congr 1
  conv=>rhs;rw[<- List.map_id caps]
  exact List.map_congr_left λi hi=>hf i (h i hi)
 |bcl g id=>simp only[mC];rw[hf id h]
 |iter id=>simp only[mC];rw[hf id h]
 |mp id=>simp only[mC];rw[hf id h]
 |mit id=>simp only[mC];rw[hf id h]
 |rs id len=>simp only[mC];rw[hf id h]
 |rp id len i off=>simp only[mC];rw[hf id h]
 |_=>rfl
theorem mG_id{f:Nat->Nat}{k:Nat}(hf:∀i,i<k->f i=i){c:AV}(h:c.bnd2 k):mG f c=c:=by
 cases c with
 |agg cs=>
  simp only[mG]
  congr 1
  conv=>rhs;rw[<- List.map_id cs]
  exact List.map_congr_left λc hc=>mC_id hf (h c hc)
 |ptr id off=>exact mC_id (c:=.ptr id off) hf h
 |aptr id len i off=>exact mC_id (c:=.aptr id len i off) hf h
 |arr id len=>exact mC_id (c:=.arr id len) hf h
 |clo g caps=>exact mC_id (c:=.clo g caps) hf h
 |bcl g id=>exact mC_id (c:=.bcl g id) hf h
 |iter id=>exact mC_id (c:=.iter id) hf h
 |mp id=>exact mC_id (c:=.mp id) hf h
 |mit id=>exact mC_id (c:=.mit id) hf h
 |rs id len=>exact mC_id (c:=.rs id len) hf h
 |rp id len i off=>exact mC_id (c:=.rp id len i off) hf h
 |_=>rfl
theorem mO_id{f:Nat->Nat}{k:Nat}(hf:∀i,i<k->f i=i){o:AO}(h:o.bnd k):mO f o=o:=by
 cases o with
 |cells cs=>
  simp only[mO]
  congr 1
  conv=>rhs;rw[<- List.map_id cs]
  exact List.map_congr_left λc hc=>mC_id hf (h c hc)
 |map kvs=>
  simp only[mO]
  congr 1
  conv=>rhs;rw[<- List.map_id kvs]
  exact List.map_congr_left λp hp=>by rw[mG_id hf (h p hp)];rfl
 |mit m n s=>simp only[mO];rw[hf m h]
 |rarr es sz nl=>
  simp only[mO]
  congr 1
  conv=>rhs;rw[<- List.map_id es]
  refine List.map_congr_left λe he=>?_
  conv=>rhs;rw[id,<- List.map_id e]
  exact List.map_congr_left λc hc=>mC_id hf (h e he c hc)
 |_=>rfl
theorem CallSpec.pre{P:Program}{g:FuncId}{args:List AV}{bs:List AO}{Q:AV->List AO->Prop}(h:CallSpec P g args bs Q)(rest:List AO)(hba:∀a∈args,a.bnd2 bs.length)(hbo:∀o∈bs,o.bnd bs.length){K:AV->List AO->Prop}
  (hk:∀r bs',Q r bs'->bs'.length=bs.length/\(∀o∈bs',o.bnd bs.length)/\(∀f,mA f r=r)/\K r (bs'++rest)):CallSpec P g args (bs++rest) K:=by
 have hf:∀n i,i<bs.length->rn (List.range bs.length) n i=i:=λn i hi=>by
  rw[rn_lt (by simpa using hi),List.getD_eq_getElem?_getD]
  simp[hi]
 have:=CallSpec.frame (K:=K) h (List.range bs.length) (bs++rest) (by simp) List.nodup_range (λi o hx=>?_) hba hbo (λr bs' hq=>?_)
 ·have e:args.map (mG (rn (List.range bs.length) (bs++rest).length))=args:=by
   conv=>rhs;rw[<- List.map_id args]
   exact List.map_congr_left λa ha=>mG_id (hf _) (hba a ha)
  rwa [e] at this
 ·have hi:=(List.getElem?_eq_some_iff.1 hx).1
  have e:=hf (bs++rest).length i hi
  rw[rn_lt (by simpa using hi)] at e
  rw[e,List.getElem?_append_left hi,hx,mO_id (hf _) (hbo o (List.mem_of_getElem? hx))]
 ·obtain⟨h1,h2,h3,h4⟩:=hk r bs' hq
  rw[h3]
  obtain⟨g1,g2,g3,g4⟩:=putA_get (rn (List.range bs.length) (bs++rest).length) (List.range bs.length) bs' (bs++rest) List.nodup_range (λs hs=>by simp at hs ⊢;omega) (by simp[h1])
  have e:putA (rn (List.range bs.length) (bs++rest).length) (List.range bs.length) bs' (bs++rest)=bs'++rest:=by
   refine List.ext_getElem? λj=>?_
   rcases Nat.lt_or_ge j bs.length with hj|hj
   ·have hb:bs'[j]?=some bs'[j]:=List.getElem?_eq_getElem (by omega)
    rw[g1 j j _ (by simp[hj]) hb,List.getElem?_append_left (by omega),hb,mO_id (hf _) (h2 _ (List.mem_of_getElem? hb))]
   ·rcases Nat.lt_or_ge j (bs++rest).length with hj2|hj2
    ·rw[g2 j hj2 (by simp;omega),List.getElem?_append_right hj,List.getElem?_append_right (by omega),h1]
    ·rw[List.getElem?_eq_none (by rw[g4];simp at hj2 ⊢;omega),List.getElem?_eq_none (by simp at hj2 ⊢;omega)]
  rw[e]
  exact h4
end Go.Bi
namespace Go.Proofs
open Go.Bi
def isAnd(op n:Int)(v:Vl)(nm:List UInt8)(k:Nat):Bool:=decide (op=5/\2<=k/\n=0/\nm=[]/\v=vNull)
mutual
/-- The conjuncts. -/
def cj:Ex->List Ex
 |.mk op n v nm nl args=>if isAnd op n v nm args.length then cjs args else [.mk op n v nm nl args]
def cjs:List Ex->List Ex
 |[]=>[]
 |a::l=>cj a++cjs l
end
theorem cjs_eq:∀l,cjs l=l.flatMap cj
 |[]=>by simp[cjs]
 |a::l=>by simp[cjs,cjs_eq l]
theorem cj_mk(op n:Int)(v:Vl)(nm:List UInt8)(nl:Bool)(args:List Ex):cj (.mk op n v nm nl args)=if isAnd op n v nm args.length then args.flatMap cj else [.mk op n v nm nl args]:=by rw[cj,cjs_eq]
theorem flatMap_len{l:List Ex}{f:Ex->List Ex}(h:∀a∈l,(f a).length<=a.bk):(l.flatMap f).length<=bulkLL (xL l):=by
 induction l with
 |nil=>simp
 |cons a l ih=>
  have h1:=h a (by simp)
  have h2:=ih λb hb=>h b (by simp[hb])
  rw[List.flatMap_cons,List.length_append]
  simp only[xL,List.map_cons,bulkLL]
  unfold Ex.bk at h1
  unfold xL at h2
  omega
theorem cj_len:∀e:Ex,(cj e).length<=e.bk:=by
 refine Ex.ind λop n v nm nl args ih=>?_
 have hb:=Ex.bk_mk op n v nm nl args
 rw[cj_mk]
 split
 ·have:=flatMap_len ih
  omega
 ·simp;omega
theorem cj_bk:∀e:Ex,∀x∈cj e,x.bk<=e.bk:=by
 refine Ex.ind λop n v nm nl args ih x hx=>?_
 rw[cj_mk] at hx
 split at hx
 ·obtain⟨a,ha,hxa⟩:=List.mem_flatMap.1 hx
  have:=ih a ha x hxa
  have:=Ex.bk_arg (op:=op) (n:=n) (v:=v) (name:=nm) (nl:=nl) ha
  omega
 ·simp at hx;subst hx;omega
theorem cjt_succ{l:List Ex}{i:Nat}{x:Ex}(h:l[i]?=some x):(l.take (i+1)).flatMap cj=(l.take i).flatMap cj++cj x:=by
 rw[List.take_add_one,h];simp
theorem cjd_succ{l:List Ex}{i:Nat}{x:Ex}(h:l[i]?=some x):(l.drop i).flatMap cj=cj x++(l.drop (i+1)).flatMap cj:=by
 obtain⟨hlt,he⟩:=List.getElem?_eq_some_iff.1 h
 rw[List.drop_eq_getElem_cons hlt,he];simp
theorem isAnd_t{op n:Int}{v:Vl}{nm:List UInt8}{k:Nat}(h:isAnd op n v nm k=true):op=5/\2<=k/\n=0/\nm=[]/\v.k=0/\v.n=0/\v.s=[]:=by
 unfold isAnd at h
 obtain⟨h1,h2,h3,h4,h5⟩:=of_decide_eq_true h
 subst h5
 exact⟨h1,h2,h3,h4,rfl,rfl,rfl⟩
theorem isAnd_f{op n:Int}{v:Vl}{nm:List UInt8}{k:Nat}(h:isAnd op n v nm k=false)(h1:op=5)(h2:2<=k)(h3:n=0)(h4:nm=[])(h5:v.k=0)(h6:v.n=0)(h7:v.s=[]):False:=by
 unfold isAnd at h
 have:=of_decide_eq_false h
 exact this ⟨h1,h2,h3,h4,by cases v;simp_all[vNull]⟩
theorem C.each_l(g:FuncId)(sz:Nat)(f:List (List D)->Ex->List (List D))(ok:Nat->List (List D)->Prop)(hg:∀x:Ex,x.bk<=1048576->∀(k:Nat)(s:List (List D)),ok (k+1) s->ok k (f s x)/\CallSpec Tryz.prog g [x.av,.ptr 0 0] [.cells [.arr 1 s.length],.arr s sz 0 s.isEmpty] (λr os=>r=.tup []/\os=[.cells [.arr 1 (f s x).length],.arr (f s x) sz 0 (f s x).isEmpty])):∀e:Ex,e.bk<=1048576->∀(k:Nat)(s:List (List D)),ok (k+(cj e).length) s->ok k ((cj e).foldl f s)/\CallSpec Tryz.prog N.predicate_each [e.av,.clo g [0]] [.cells [.arr 1 s.length],.arr s sz 0 s.isEmpty] (λr os=>r=.tup []/\os=[.cells [.arr 1 ((cj e).foldl f s).length],.arr ((cj e).foldl f s) sz 0 ((cj e).foldl f s).isEmpty]):=by
 have hP:∀x:Ex,x.bk<=1048576->∀(k:Nat) (s:List (List D)),ok (k+1) s->∀rest,CallSpec Tryz.prog g [x.av,.ptr 0 0] ([.cells [.arr 1 s.length],.arr s sz 0 s.isEmpty]++rest) (λr os=>r=.tup []/\os=[.cells [.arr 1 (f s x).length],.arr (f s x) sz 0 (f s x).isEmpty]++rest):=λx hx k s hs rest=>
  CallSpec.pre (hg x hx k s hs).2 rest (by
   intro a ha
   simp only[List.mem_cons,List.not_mem_nil,or_false] at ha
   rcases ha with rfl|rfl
   ·exact bnd_ds _ _
   all_goals simp[AV.bnd2,AV.bnd1]) (by intro o ho;simp at ho;(try rcases ho with rfl|rfl|rfl)<;>(try rcases ho with rfl|rfl)<;>(try subst ho)<;>simp[AO.bnd,AV.bnd1]) (by rintro r bs' ⟨rfl,rfl⟩;exact⟨rfl,by intro o ho;simp at ho;(try rcases ho with rfl|rfl|rfl)<;>(try rcases ho with rfl|rfl)<;>(try subst ho)<;>simp[AO.bnd,AV.bnd1],λf=>rfl,rfl,rfl⟩)
 refine Ex.ind λop n v nm nl args ih hb k s hs=>?_
 obtain⟨b1,b2,b3,b4⟩:=Ex.bk_bounds hb
 have h1:=xL_len args
 have hm:=xL_mem args
 have hP':=hP (.mk op n v nm nl args) hb k s
 have hg':=hg (.mk op n v nm nl args) hb k s
 rw[cj_mk] at hs ⊢
 rw[Ex.av_mk] at hP' ⊢
 obtain⟨da,hda⟩:∃d,d=ng nl (xL args):=⟨_,rfl⟩
 have hsd:SlD da (xL args):=by rw[hda];exact sld_ng
 rw[<- hda] at hP' ⊢
 cases hA:isAnd op n v nm args.length with
 |false=>
  have hF:=isAnd_f hA
  rw[hA,if_neg (by simp)] at hs
  rw[if_neg (by simp)]
  have hq:=hP' hs
  rw[List.foldl_cons,List.foldl_nil]
  refine⟨(hg' hs).1,?_⟩
  refine F.predicate_each.goX mixed rfl ?_
  repeat' first|refine st ?_|((with_reducible first|apply k_nc|apply k_cs);(·exact hq _);(try rintro _ _ ⟨rfl,rfl⟩))|((with_reducible apply k_pr);(·exact hq _))|refine⟨λ_=>?_,λ_=>?_⟩|fail
  all_goals first|exact⟨rfl,rfl⟩|(exfalso;exact hF (by assumption) (by omega) (by assumption) (by assumption) (by assumption) (by assumption) (by assumption))|(exfalso;simp_all;done)
 |true=>
  obtain⟨c1,c2,c3,c4,c5,c6,c7⟩:=isAnd_t hA
  rw[hA,if_pos rfl] at hs
  rw[if_pos rfl]
  have key:∀i,i<=args.length->ok (k+((args.drop i).flatMap cj).length) (((args.take i).flatMap cj).foldl f s):=by
   intro i
   induction i with
   |zero=>intro _;simpa using hs
   |succ i ihi=>
    intro hi
    have hx:args[i]?=some args[i]:=List.getElem?_eq_getElem (by omega)
    have hi':=ihi (by omega)
    rw[cjd_succ hx,List.length_append,show ∀a b:Nat,k+(a+b)=k+b+a by intros;omega] at hi'
    rw[cjt_succ hx,List.foldl_append]
    exact(ih _ (List.mem_of_getElem? hx) (b4 _ (List.mem_of_getElem? hx)) _ _ hi').1
  have keyE:=key args.length (Nat.le_refl _)
  rw[List.take_length,List.drop_length] at keyE
  refine⟨keyE,?_⟩
  refine F.predicate_each.goX mixed rfl ?_
  repeat' first|refine st ?_|refine⟨λ_=>?_,λ_=>?_⟩|fail
  refine x_loop1 mixed Lt.predicate_each_l0 Lk.predicate_each_l0 (λ(i:Nat)=>[.d (eI i)]) (λi=>[.cells [.arr 1 (((args.take i).flatMap cj).foldl f s).length],.arr (((args.take i).flatMap cj).foldl f s) sz 0 (((args.take i).flatMap cj).foldl f s).isEmpty]++[.cells [.d (eI op),.d (eI n),.d (eI v.k),.d (eI v.n),.d (.str v.s),.d (.str nm),.d da]]) (λi=>i<=args.length) (λi=>args.length-i) 0 rfl rfl rfl rfl (λ_ _=>⟨rfl,rfl⟩) rfl (Nat.zero_le _) ?_
  repeat' first|refine st ?_|refine⟨λ_=>?_,λ_=>?_⟩|fail
  intro i h4
  obtain⟨t,ht⟩:∃t,t=((args.take i).flatMap cj).foldl f s:=⟨_,rfl⟩
  have hkt:=key i h4
  rw[<- ht] at hkt ⊢
  cases hx:args[i]? with
  |some x=>
   have hlt:=(List.getElem?_eq_some_iff.1 hx).1
   have hgx:=xL_get hx
   have hxm:=List.mem_of_getElem? hx
   rw[cjd_succ hx,List.length_append,show ∀a b:Nat,k+(a+b)=k+b+a by intros;omega] at hkt
   have hi:=ih x hxm (b4 x hxm) _ t hkt
   have hn:((args.take (i+1)).flatMap cj).foldl f s=(cj x).foldl f t:=by rw[cjt_succ hx,List.foldl_append,ht]
   have hL:∀rest,CallSpec Tryz.prog N.predicate_each [x.av,.clo g [0]] ([.cells [.arr 1 t.length],.arr t sz 0 t.isEmpty]++rest) (λr os=>r=.tup []/\os=[.cells [.arr 1 (((args.take (i+1)).flatMap cj).foldl f s).length],.arr (((args.take (i+1)).flatMap cj).foldl f s) sz 0 (((args.take (i+1)).flatMap cj).foldl f s).isEmpty]++rest):=λrest=>by
    rw[hn]
    exact CallSpec.pre hi.2 rest (by
     intro a ha
     simp only[List.mem_cons,List.not_mem_nil,or_false] at ha
     rcases ha with rfl|rfl
     ·exact bnd_ds _ _
     ·simp[AV.bnd2,AV.bnd1]) (by intro o ho;simp at ho;(try rcases ho with rfl|rfl|rfl)<;>(try rcases ho with rfl|rfl)<;>(try subst ho)<;>simp[AO.bnd,AV.bnd1]) (by rintro r bs' ⟨rfl,rfl⟩;exact⟨rfl,by intro o ho;simp at ho;(try rcases ho with rfl|rfl|rfl)<;>(try rcases ho with rfl|rfl)<;>(try subst ho)<;>simp[AO.bnd,AV.bnd1],λf=>rfl,rfl,rfl⟩)
   obtain⟨o1,n1,v1,m1,l1,a1⟩:=x
   rw[Ex.ds_mk] at hgx
   simp only[Ex.av_mk] at hL
   repeat' first|refine st ?_|((with_reducible first|apply k_nc|apply k_cs);(·exact hL _);(try rintro _ _ ⟨rfl,rfl⟩))|((with_reducible apply k_pr);(·exact hL _))|refine⟨λ_=>?_,λ_=>?_⟩|fail
   exact⟨i+1,rfl,rfl,rfl,by omega,by omega⟩
  |none=>
   have hge:=List.getElem?_eq_none_iff.1 hx
   rw[List.take_of_length_le hge] at ht
   rw[<- ht]
   repeat' first|refine st ?_|refine⟨λ_=>?_,λ_=>?_⟩|fail
   all_goals exact⟨rfl,rfl⟩
end Go.Proofs
end
section
namespace Go.Proofs
open Go.Bi
theorem ndF_sl{K:List Kw}{p:Pl}(h:(ndF K p).2=0):(ndF K p).1.d=.sl (eIs (ndF K p).1.ks):=by
 obtain⟨o,ni,ins⟩:=p
 obtain⟨_,_,_,_,_,h6⟩:=ndF_ok h
 unfold Kw.d ng
 cases hk:(ndF K (.mk o ni ins)).1.ks with
 |nil=>rw[hk] at h6;simp at h6
 |cons a r=>simp[eIs]
theorem ndF_err{K:List Kw}{p:Pl}(h:(ndF K p).2≠0):(ndF K p).1=kw0:=by
 obtain⟨o,ni,ins⟩:=p
 rw[ndF_mk] at h ⊢
 unfold ndN at h ⊢
 by_cases h1:inN o.op<0
 ·rw[if_pos h1]
 rw[if_neg h1] at h ⊢
 by_cases h2:(ins.length:Int)=inN o.op
 rotate_left
 ·rw[if_neg h2]
 rw[if_pos h2] at h ⊢
 by_cases h3:feK (ins.map (ndF K))=0
 rotate_left
 ·rw[if_neg h3]
 rw[if_pos h3] at h ⊢
 unfold ndR at h ⊢
 by_cases h4:(resF K o ((ins.map (ndF K)).map Prod.fst)).2=0
 ·rw[if_pos h4] at h ⊢
  by_cases h5:(resF K o ((ins.map (ndF K)).map Prod.fst)).1.ks.length=0\/48<(resF K o ((ins.map (ndF K)).map Prod.fst)).1.ks.length
  ·rw[if_pos h5]
  ·rw[if_neg h5] at h;exact absurd rfl h
 ·rw[if_neg h4]
abbrev ckO(din:D):List AO:=[.cells [.clo N.snapshot_Check_c1 [0,1]],.cells [.d din]]
theorem C.Check_c1(K:List Kw)(hK:K.length<=4194304)(hKb:∀k∈K,k.ks.length<=4194304)(din:D)(hin:SlD din (eKw K)):∀p:Pl,p.bk<=1048576->
  CallSpec Tryz.prog N.snapshot_Check_c1 [p.av,.ptr 0 0,.ptr 1 0] (ckO din) (λr os=>r=.tup [.d (ndF K p).1.d,.d (eI (ndF K p).2)]/\os=ckO din):=by
 refine Pl.ind λo ni ins ih hb=>?_
 have hB:=Pl.bd hb
 have hI:=C.snapshot_inputs o.op
 have hR:=λk hk hkb dkk hdk=>C.snapshot_operator K hK hKb din hin o ni ins hb k hk hkb dkk hdk
 have hqs:=@ndF_sl K (.mk o ni ins)
 have hq:=ndF_mk K o ni ins
 obtain⟨q,hqq⟩:∃q,q=ndF K (.mk o ni ins):=⟨_,rfl⟩
 rw[<- hqq] at hq hqs ⊢
 clear hqq
 obtain⟨xo,xn,xv,xm,xd,hav,_⟩:=Pl.cuto o ni ins
 rw[hav] at hR ⊢
 clear hav
 have hil:=hB.il
 have hsub:=hB.sub
 clear hB hb
 obtain⟨op,n,nk,ki,nr,rows,pred,nx,xs,ny,keys,na,aggs⟩:=o
 have hdi:SlD (ng ni (pL ins)) (pL ins):=sld_ng
 obtain⟨dk,e1⟩:∃d,d=ng nk (eIs ki):=⟨_,rfl⟩
 obtain⟨dr,e2⟩:∃d,d=ng nr (eRs rows):=⟨_,rfl⟩
 obtain⟨dx,e3⟩:∃d,d=ng nx (xL xs):=⟨_,rfl⟩
 obtain⟨dy,e4⟩:∃d,d=ng ny (eIs keys):=⟨_,rfl⟩
 obtain⟨da,e5⟩:∃d,d=ng na (eAs aggs):=⟨_,rfl⟩
 obtain⟨di,e6⟩:∃d,d=ng ni (pL ins):=⟨_,rfl⟩
 have hR:∀(k:List Kw),(k.length:Int)=inN op->(∀x∈k,x.ks.length<=48)->∀dkk,SlD dkk (eKw k)->∃kd,((resF K ⟨op,n,nk,ki,nr,rows,pred,nx,xs,ny,keys,na,aggs⟩ k).2=0->SlD kd (eIs (resF K ⟨op,n,nk,ki,nr,rows,pred,nx,xs,ny,keys,na,aggs⟩ k).1.ks))/\Bi.Pure Tryz.prog N.snapshot_operator [ePl op n dk dr xo xn xv xm xd dx dy da di,.d din,.d dkk] (.tup [.d kd,.d (eI (resF K ⟨op,n,nk,ki,nr,rows,pred,nx,xs,ny,keys,na,aggs⟩ k).2)]):=by
  rw[e1,e2,e3,e4,e5,e6];exact hR
 show CallSpec Tryz.prog N.snapshot_Check_c1 [ePl op n (ng nk (eIs ki)) (ng nr (eRs rows)) xo xn xv xm xd (ng nx (xL xs)) (ng ny (eIs keys)) (ng na (eAs aggs)) (ng ni (pL ins)),.ptr 0 0,.ptr 1 0] (ckO din) _
 rw[<- e1,<- e2,<- e3,<- e4,<- e5,<- e6]
 rw[<- e6] at hdi
 obtain⟨o,ho⟩:∃o:Po,o=⟨op,n,nk,ki,nr,rows,pred,nx,xs,ny,keys,na,aggs⟩:=⟨_,rfl⟩
 rw[<- ho] at hR hq
 have hoo:o.op=op:=by rw[ho]
 clear e1 e2 e3 e4 e5 e6 ho
 unfold ndN at hq
 rw[hoo] at hq
 have hI:Bi.Pure Tryz.prog N.snapshot_inputs [.d (eI op)] (.d (eI (inN op))):=hI
 obtain⟨m,hm⟩:∃m,m=inN op:=⟨_,rfl⟩
 rw[<- hm] at hI hR hq
 clear hm hoo
 have l1:=pL_len ins
 have m1:=pL_mem ins
 have g1:=λi p=>@pL_get ins i p
 obtain⟨es,hes⟩:∃z,z=pL ins:=⟨_,rfl⟩
 rw[<- hes] at hdi l1 m1 g1
 clear hes
 have r0:xv.k=xv.k:=rfl
 have r1:xv.s=xv.s:=rfl
 have r2:xm=xm:=rfl
 by_cases h1:m<0
 ·rw[if_pos h1] at hq
  subst hq
  clear hR g1 ih hqs
  refine F.snapshot_Check_c1.goX mixed rfl ?_
  repeat' first|refine st ?_|((with_reducible apply go_i);conv=>whnf)|refine⟨λ_=>?_,λ_=>?_⟩|fail
  all_goals exact⟨rfl,rfl⟩
 rw[if_neg h1] at hq
 by_cases h2:(ins.length:Int)=m
 rotate_left
 ·rw[if_neg h2] at hq
  subst hq
  have h3:¬m=(es.length:Int):=by omega
  clear hR g1 ih hqs
  refine F.snapshot_Check_c1.goX mixed rfl ?_
  repeat' first|refine st ?_|((with_reducible apply go_i);conv=>whnf)|refine⟨λ_=>?_,λ_=>?_⟩|fail
  all_goals first|exact⟨rfl,rfl⟩|(exfalso;omega)
 rw[if_pos h2] at hq
 have h3:m=(es.length:Int):=by omega
 obtain⟨rs,hrs⟩:∃z,z=ins.map (ndF K):=⟨_,rfl⟩
 have hrl:rs.length=ins.length:=by rw[hrs,List.length_map]
 have hrg:∀i p,ins[i]?=some p->rs[i]?=some (ndF K p):=λi p h=>by rw[hrs,List.getElem?_map,h];rfl
 have hrb:∀x∈rs.map Prod.fst,x.ks.length<=48:=λx hx=>by
  obtain⟨y,hy,rfl⟩:=List.mem_map.1 hx
  rw[hrs] at hy
  obtain⟨p,_,rfl⟩:=List.mem_map.1 hy
  exact ndF_len K p
 rw[<- hrs] at hq
 clear hrs
 refine F.snapshot_Check_c1.goX mixed rfl ?_
 repeat' first|refine st ?_|((with_reducible apply go_i);conv=>whnf)|refine⟨λ_=>?_,λ_=>?_⟩|fail
 refine x_nil 7 1 rfl rfl ?_
 refine x_loop2 mixed Lt.snapshot_Check_c1_l0 Lk.snapshot_Check_c1_l0 (λ(i:Nat) (w:List Kw)=>[.arr 3 (eKw w).length,.d (eI i)]) (λi w=>[.cells [.clo N.snapshot_Check_c1 [0,1]],.cells [.d din],.cells [.d (eI op),.d (eI n),.d dk,.d dr,.d (eI xo),.d (eI xn),.d (eI xv.k),.d (eI xv.n),.d (.str xv.s),.d (.str xm),.d xd,.d dx,.d dy,.d da,.d di],.arr (eKw w) 1 0 (eKw w).isEmpty]) (λi w=>i<=ins.length/\w=(rs.take i).map Prod.fst/\feK (rs.drop i)=feK rs) (λi w=>ins.length-i) 0 [] rfl rfl rfl rfl (λ_ _ _=>⟨rfl,rfl⟩) rfl ⟨by omega,rfl,rfl⟩ ?_
 repeat' first|refine st ?_|((with_reducible apply go_i);conv=>whnf)|refine⟨λ_=>?_,λ_=>?_⟩|fail
 intro i w ⟨i1,i2,i3⟩
 have hw1:=eKw_len w
 have hwm:=eKw_mem w
 have hwl:w.length<=i:=by rw[i2];simp;omega
 have hbd:((eKw w).length+1)*24<=140737488355328:=by omega
 have happ:=λk:Kw=>show eKw (w++[k])=eKw w++[[k.d]] by simp[eKw]
 have hne:=λk:Kw=>show(eKw (w++[k])).isEmpty=false by simp[eKw]
 obtain⟨A,hA⟩:∃z,z=eKw w:=⟨_,rfl⟩
 rw[<- hA] at hw1 hwm hbd ⊢
 cases hi:ins[i]? with
 |some p=>
  have hlt:=(List.getElem?_eq_some_iff.1 hi).1
  have hil3:(i:Int)<es.length:=by omega
  have hg:=g1 i p hi
  have hC:=ih p (List.mem_of_getElem? hi) (hsub p (List.mem_of_getElem? hi))
  have hrx:=hrg i p hi
  have hfd:=feK_drop hrx
  have htk:(rs.take (i+1)).map Prod.fst=w++[(ndF K p).1]:=by rw[List.take_add_one,hrx,List.map_append,<- i2];rfl
  rw[i3] at hfd
  have hL:∀rest:List AO,CallSpec Tryz.prog N.snapshot_Check_c1 [p.av,.ptr 0 0,.ptr 1 0] (ckO din++rest) (λr os=>r=.tup [.d (ndF K p).1.d,.d (eI (ndF K p).2)]/\os=ckO din++rest):=λrest=>
   CallSpec.pre hC rest (by
    intro a ha
    simp only[List.mem_cons,List.not_mem_nil,or_false] at ha
    rcases ha with rfl|rfl|rfl
    ·exact bnd_ds _ _
    ·simp[AV.bnd2,AV.bnd1]
    ·simp[AV.bnd2,AV.bnd1]) (by
    intro o ho
    simp only[List.mem_cons,List.not_mem_nil,or_false] at ho
    rcases ho with rfl|rfl<;>simp[AO.bnd,AV.bnd1]) (by
    rintro r bs' ⟨rfl,rfl⟩
    refine⟨rfl,?_,λf=>rfl,rfl,rfl⟩
    intro o ho
    simp only[List.mem_cons,List.not_mem_nil,or_false] at ho
    rcases ho with rfl|rfl<;>simp[AO.bnd,AV.bnd1])
  obtain⟨op',n',dk',dr',xo',xn',xv',xm',xd',dx',dy',da',di',c1,c2⟩:=Pl.cut p
  have hg:es[((i:Nat):Int).toNat]?=some (ePld op' n' dk' dr' xo' xn' xv' xm' xd' dx' dy' da' di'):=by rw[<- c1];exact hg
  rw[c2] at hL
  obtain⟨⟨k,er⟩,hk⟩:∃z,z=ndF K p:=⟨_,rfl⟩
  rw[<- hk] at hL hfd htk
  dsimp only at hL hfd htk
  have happ:=happ k
  have hne:=hne k
  rw[<- hA] at happ
  obtain⟨kd,hkd⟩:∃d,d=k.d:=⟨_,rfl⟩
  rw[<- hkd] at hL happ
  clear hkd hA c1 c2 hi g1 ih hk hrg hR hrx hC hqs
  by_cases hr:er=0
  ·subst hr
   rw[if_pos rfl] at hfd
   repeat' first|refine st ?_|((with_reducible apply go_i);conv=>whnf)|((with_reducible first|apply k_nc|apply k_cs);(·exact hL _);(try rintro _ _ ⟨rfl,rfl⟩))|((with_reducible apply k_pr);(·exact hL _))|refine⟨λ_=>?_,λ_=>?_⟩|fail
   exact⟨i+1,w++[k],by rw[happ];simp,rfl,by rw[hne,happ];simp,by omega,by omega,htk.symm,hfd.symm⟩
  ·rw[if_neg hr] at hfd
   rw[hfd,if_neg hr] at hq
   subst hq
   clear happ hne
   repeat' first|refine st ?_|((with_reducible apply go_i);conv=>whnf)|((with_reducible first|apply k_nc|apply k_cs);(·exact hL _);(try rintro _ _ ⟨rfl,rfl⟩))|((with_reducible apply k_pr);(·exact hL _))|refine⟨λ_=>?_,λ_=>?_⟩|fail
   all_goals first|exact⟨rfl,rfl⟩|(exfalso;omega)
 |none=>
  have hge:=List.getElem?_eq_none_iff.1 hi
  have hil2:(es.length:Int)<=(i:Int):=by omega
  rw[List.drop_of_length_le (by omega)] at i3
  have i3:feK rs=0:=i3.symm
  rw[List.take_of_length_le (by omega)] at i2
  rw[if_pos i3,<- i2] at hq
  obtain⟨kd,hkd,hRR⟩:=hR w (by rw[i2,List.length_map];omega) (by rw[i2];exact hrb) (CnD (eKw w).isEmpty .nil (.sl (eKw w))) (by rw[show(CnD (eKw w).isEmpty .nil (.sl (eKw w)):D)=ng true (eKw w) by cases eKw w<;>rfl];exact sld_ng)
  rw[<- hA] at hRR
  obtain⟨⟨k,er⟩,hk⟩:∃z,z=resF K o w:=⟨_,rfl⟩
  rw[<- hk] at hRR hq hkd
  unfold ndR at hq
  dsimp only at hRR hq hkd
  have hkl:=eIs_len k.ks
  clear hk hi g1 ih hrg hR happ hne hA hrb
  by_cases hr:er=0
  ·subst hr
   rw[if_pos rfl] at hq
   have hsk:=hkd rfl
   obtain⟨ek,hek⟩:∃z,z=eIs k.ks:=⟨_,rfl⟩
   rw[<- hek] at hsk hkl
   by_cases hz:k.ks.length=0
   ·rw[if_pos (.inl hz)] at hq
    subst hq
    have hz2:(ek.length:Int)<1:=by omega
    clear hkd hek hqs
    repeat' first|refine st ?_|((with_reducible apply go_i);conv=>whnf)|refine⟨λ_=>?_,λ_=>?_⟩|fail
    all_goals first|exact⟨rfl,rfl⟩|(exfalso;omega)
   ·by_cases hz2:48<k.ks.length
    ·rw[if_pos (.inr hz2)] at hq
     subst hq
     have hz3:¬(ek.length:Int)<1:=by omega
     have hz4:(48:Int)<(ek.length:Int):=by omega
     clear hkd hek hqs
     repeat' first|refine st ?_|((with_reducible apply go_i);conv=>whnf)|refine⟨λ_=>?_,λ_=>?_⟩|fail
     all_goals first|exact⟨rfl,rfl⟩|(exfalso;omega)
    ·rw[if_neg (by omega)] at hq
     subst hq
     have hz3:¬(ek.length:Int)<1:=by omega
     have hz4:(ek.length:Int)<=48:=by omega
     have hqs:=hqs rfl
     have hqs:Kw.d (k,(0:Int)).1=.sl (eIs k.ks):=hqs
     have hkk:kd=.sl ek:=by
      rcases hsk with ⟨_,h⟩|h
      ·rw[h] at hz3;simp at hz3
      ·exact h
     rw[hqs,<- hek]
     subst hkk
     clear hkd hek hqs hsk
     repeat' first|refine st ?_|((with_reducible apply go_i);conv=>whnf)|refine⟨λ_=>?_,λ_=>?_⟩|fail
     all_goals first|exact⟨rfl,rfl⟩|(exfalso;omega)
  ·rw[if_neg hr] at hq
   subst hq
   clear hkd hqs
   repeat' first|refine st ?_|((with_reducible apply go_i);conv=>whnf)|refine⟨λ_=>?_,λ_=>?_⟩|fail
   all_goals first|exact⟨rfl,rfl⟩|(exfalso;omega)
theorem C.snapshot_Check(K:List Kw)(hK:K.length<=4194304)(hKb:∀k∈K,k.ks.length<=4194304)(din:D)(hin:SlD din (eKw K))(p:Pl)(hb:p.bk<=1048576) :
  Pure Tryz.prog N.snapshot_Check [p.av,.d din] (.tup [.d (cpF K p).1.d,.d (eI (cpF K p).2)]):=by
 have hD:=C.snapshot_depth p hb 24 (Nat.le_refl _)
 have hN:=C.Check_c1 K hK hKb din hin p hb
 have hsl:=@ndF_sl K p
 have hln:=ndF_len K p
 obtain⟨q,hq⟩:∃q,q=cpF K p:=⟨_,rfl⟩
 rw[<- hq]
 unfold cpF at hq
 have hF:∀c0:List AV,CallSpec Tryz.prog N.snapshot_Check_c1 [p.av,.ptr 2 0,.ptr 1 0] [.cells c0,.cells [.d din],.cells [.clo N.snapshot_Check_c1 [2,1]]] (λr os=>r=.tup [.d (ndF K p).1.d,.d (eI (ndF K p).2)]/\os=[.cells c0,.cells [.d din],.cells [.clo N.snapshot_Check_c1 [2,1]]]):=λc0=>by
  have:=CallSpec.frame (K:=λr os=>r=.tup [.d (ndF K p).1.d,.d (eI (ndF K p).2)]/\os=[.cells c0,.cells [.d din],.cells [.clo N.snapshot_Check_c1 [2,1]]]) hN [2,1] [.cells c0,.cells [.d din],.cells [.clo N.snapshot_Check_c1 [2,1]]] rfl (by decide) (λi o h=>by
   match i,h with
   |0,h=>cases h;rfl
   |1,h=>cases h;rfl
   |i+2,h=>simp at h) (λa ha=>by
    simp only[List.mem_cons,List.not_mem_nil,or_false] at ha
    rcases ha with rfl|rfl|rfl
    ·exact bnd_ds _ _
    ·simp[AV.bnd2,AV.bnd1]
    ·simp[AV.bnd2,AV.bnd1]) (λo ho=>by
    simp only[List.mem_cons,List.not_mem_nil,or_false] at ho
    rcases ho with rfl|rfl<;>simp[AO.bnd,AV.bnd1]) (by rintro r bs' ⟨rfl,rfl⟩;exact⟨rfl,rfl⟩)
  rw[List.map_cons,show mG (rn [2,1] [AO.cells c0,.cells [.d din],.cells [.clo N.snapshot_Check_c1 [2,1]]].length) p.av=p.av from mG_ds _ _] at this
  exact this
 obtain⟨op',n',dk',dr',xo',xn',xv',xm',xd',dx',dy',da',di',c1,c2⟩:=Pl.cut p
 rw[c2] at hD hF ⊢
 obtain⟨t,ht⟩:∃t,t=min (dpP p) (24+1):=⟨_,rfl⟩
 rw[<- ht] at hD
 obtain⟨⟨k,er⟩,hk⟩:∃z,z=ndF K p:=⟨_,rfl⟩
 have herr:=@ndF_err K p
 rw[<- hk] at hF hq hsl hln herr
 dsimp only at hF hsl hln herr
 have hkl:=eIs_len k.ks
 have hkm:=eIs_mem k.ks
 by_cases h:24<dpP p
 ·rw[if_pos h] at hq
  subst hq
  have ht:(24:Int)<t:=by omega
  clear hk c1 c2 hsl hF herr
  refine F.snapshot_Check.go mixed rfl ?_
  repeat' first|refine st ?_|((with_reducible apply go_i);conv=>whnf)|refine⟨λ_=>?_,λ_=>?_⟩|fail
  all_goals rfl
 ·rw[if_neg h] at hq
  subst hq
  have ht:¬(24:Int)<t:=by omega
  by_cases hr:er=0
  ·subst hr
   have hsl:=hsl rfl
   rw[hsl] at hF
   rw[show Kw.d (k,(0:Int)).1=.sl (eIs k.ks) from hsl]
   obtain⟨ek,hek⟩:∃z,z=eIs k.ks:=⟨_,rfl⟩
   rw[<- hek] at hF hkl hkm ⊢
   have hbd:ek.length*8<=140737488355328/\ek.length<=9223372036854775807:=by omega
   clear hk c1 c2 hek hsl herr
   refine F.snapshot_Check.go mixed rfl ?_
   repeat' first|refine st ?_|((with_reducible apply go_i);conv=>whnf)|((with_reducible first|apply k_nc|apply k_cs);(·exact hF _);(try rintro _ _ ⟨rfl,rfl⟩))|((with_reducible apply k_pr);(·exact hF _))|refine⟨λ_=>?_,λ_=>?_⟩|fail
   all_goals first|rfl|(simp;rfl)
  ·have hk0:=herr hr
   subst hk0
   clear hk c1 c2 hsl herr
   refine F.snapshot_Check.go mixed rfl ?_
   repeat' first|refine st ?_|((with_reducible apply go_i);conv=>whnf)|((with_reducible first|apply k_nc|apply k_cs);(·exact hF _);(try rintro _ _ ⟨rfl,rfl⟩))|((with_reducible apply k_pr);(·exact hF _))|refine⟨λ_=>?_,λ_=>?_⟩|fail
   all_goals rfl
end Go.Proofs
end
section
namespace Go.Proofs
open Go.Bi
abbrev po0(op n:Int)(pred:Ex):Po:=⟨op,n,true,[],true,[],pred,true,[],true,[],true,[]⟩
abbrev pl0(op n:Int)(pred:Ex)(ins:List Pl):Pl:=.mk (po0 op n pred) true ins
theorem pl0_av(op n xo xn:Int)(xv:Vl)(xm:List UInt8)(xl:Bool)(xa:List Ex)(ins:List Pl):(pl0 op n (.mk xo xn xv xm xl xa) ins).av=ePl op n .nil .nil xo xn xv xm (ng xl (xL xa)) .nil .nil .nil (ng true (pL ins)):=by
 rw[Pl.av_eq _ _ _ _ _ _ _ _ _ rfl];rfl
theorem pl0_ds(op n xo xn:Int)(xv:Vl)(xm:List UInt8)(xl:Bool)(xa:List Ex)(ins:List Pl):(pl0 op n (.mk xo xn xv xm xl xa) ins).ds=ePld op n .nil .nil xo xn xv xm (ng xl (xL xa)) .nil .nil .nil (ng true (pL ins)):=by
 rw[Pl.ds_eq _ _ _ _ _ _ _ _ _ rfl];rfl
theorem C.clone_nilA:Pure Tryz.prog N.slices_Clone__api_Agg_api_Agg [.d .nil] (.d .nil):=by
 refine F.slices_Clone__api_Agg_api_Agg.go mixed rfl ?_
 repeat' first|refine st ?_|((with_reducible apply go_i);conv=>whnf)|refine⟨λ_=>?_,λ_=>?_⟩|fail
 all_goals rfl
theorem C.copied_nil:Pure Tryz.prog N.optimize_copied [.d .nil] (.d .nil):=by
 refine F.optimize_copied.go mixed rfl ?_
 repeat' first|refine st ?_|((with_reducible apply go_i);conv=>whnf)|refine⟨λ_=>?_,λ_=>?_⟩|fail
 refine x_rounds 1 (x_round mixed ?_)
 repeat' first|refine st ?_|((with_reducible apply go_i);conv=>whnf)|refine⟨λ_=>?_,λ_=>?_⟩|fail
 all_goals rfl
theorem liftRc{g:FuncId}{din:D}{r:AV}{ds:List D}(h:CallSpec Tryz.prog g [.ptr 0 0,.agg (ds.map .d)] [.cells [.d din]] (λr' os'=>r'=r/\os'=[.cells [.d din]]))(hr:∀f,mA f r=r)(rest:List AO) :
  CallSpec Tryz.prog g [.ptr 0 0,.agg (ds.map .d)] ([.cells [.d din]]++rest) (λr' os'=>r'=r/\os'=[.cells [.d din]]++rest):=
 CallSpec.pre h rest (by
  intro a ha
  simp only[List.mem_cons,List.not_mem_nil,or_false] at ha
  rcases ha with rfl|rfl
  ·simp[AV.bnd2,AV.bnd1]
  ·exact bnd_ds _ _) (by
  intro o ho
  simp only[List.mem_cons,List.not_mem_nil,or_false] at ho
  subst ho;simp[AO.bnd,AV.bnd1]) (by
  rintro r' bs' ⟨rfl,rfl⟩
  refine⟨rfl,?_,hr,rfl,rfl⟩
  intro o ho
  simp only[List.mem_cons,List.not_mem_nil,or_false] at ho
  subst ho;simp[AO.bnd,AV.bnd1])
theorem C.mapped0(g:FuncId)(Φ:Pl->Pl)(din:D)(op n:Int)(pred:Ex)(hpb:pred.bk<=1048576)(ins:List Pl)(hil:ins.length<=1048576)(hf:∀x∈ins,CallSpec Tryz.prog g [.ptr 0 0,x.av] [.cells [.d din]] (λr os=>r=(Φ x).av/\os=[.cells [.d din]])) :
  CallSpec Tryz.prog N.optimize_mapped [(pl0 op n pred ins).av,.bcl g 0] [.cells [.d din]] (λr os=>r=(pl0 op n (shf 0 pred) (ins.map Φ)).av/\os=[.cells [.d din]]):=by
 have hS:=C.expr_Shift pred hpb 0
 obtain⟨xo,xn,xv,xm,xl,xa⟩:=pred
 obtain⟨e2,he2⟩:∃e,e=shf 0 (.mk xo xn xv xm xl xa):=⟨_,rfl⟩
 rw[<- he2] at hS ⊢
 clear he2
 obtain⟨yo,yn,yv,ym,yl,ya⟩:=e2
 rw[Ex.av_mk,Ex.av_mk] at hS
 rw[pl0_av,pl0_av]
 have hdi:SlD (ng true (pL ins)) (pL ins):=sld_ng
 obtain⟨xd,hxd⟩:∃d,d=ng xl (xL xa):=⟨_,rfl⟩
 obtain⟨yd,hyd⟩:∃d,d=ng yl (xL ya):=⟨_,rfl⟩
 obtain⟨di,e6⟩:∃d,d=ng true (pL ins):=⟨_,rfl⟩
 rw[<- hxd,<- hyd] at hS
 rw[<- hxd,<- hyd,<- e6]
 rw[<- e6] at hdi
 clear hxd hyd e6
 have l1:=pL_len ins
 have m1:=pL_mem ins
 have g1:=λi p=>@pL_get ins i p
 obtain⟨es,hes⟩:∃z,z=pL ins:=⟨_,rfl⟩
 rw[<- hes] at hdi l1 m1 g1
 clear hes
 have r0:xv.k=xv.k:=rfl
 have r1:xv.s=xv.s:=rfl
 have r2:xm=xm:=rfl
 have r3:yv.s=yv.s:=rfl
 have r4:ym=ym:=rfl
 have hc1:=C.clone_nil
 have hc2:=C.clone_nilA
 have hc3:=C.copied_nil
 refine F.optimize_mapped.goX mixed rfl ?_
 repeat' first|refine st ?_|((with_reducible apply go_i);conv=>whnf)|refine⟨λ_=>?_,λ_=>?_⟩|fail
 refine x_rounds 1 (x_round mixed ?_)
 repeat' first|refine st ?_|((with_reducible apply go_i);conv=>whnf)|refine⟨λ_=>?_,λ_=>?_⟩|fail
 refine x_nilcc 3 14 15 rfl rfl rfl ?_
 refine x_loop1 mixed Lt.optimize_mapped_l1 Lk.optimize_mapped_l1 (λ(i:Nat)=>[.d (eI i)]) (λi=>[.cells [.d din],.cells [.d (eI op),.d (eI n),.d .nil,.d .nil,.d (eI xo),.d (eI xn),.d (eI xv.k),.d (eI xv.n),.d (.str xv.s),.d (.str xm),.d xd,.d .nil,.d .nil,.d .nil,.d di],.cells [.d (eI 0),.d (eI 0),.d .nil,.d .nil,.d (eI 0),.d (eI 0),.d (eI 0),.d (eI 0),.d (.str []),.d (.str []),.d .nil,.d .nil,.d .nil,.d .nil,.d .nil],.cells [.d (eI op),.d (eI n),.d .nil,.d .nil,.d (eI yo),.d (eI yn),.d (eI yv.k),.d (eI yv.n),.d (.str yv.s),.d (.str ym),.d yd,.d .nil,.d .nil,.d .nil,.arr 8 (pL ((ins.take i).map Φ)).length],.hole,.hole,.hole,.hole,.arr (pL ((ins.take i).map Φ)) 15 0 (pL ((ins.take i).map Φ)).isEmpty]) (λi=>i<=ins.length) (λi=>ins.length-i) 0 rfl rfl rfl rfl (λ_ _=>⟨rfl,rfl⟩) rfl (by omega) ?_
 repeat' first|refine st ?_|((with_reducible apply go_i);conv=>whnf)|refine⟨λ_=>?_,λ_=>?_⟩|fail
 intro i i1
 have hw1:(pL ((ins.take i).map Φ)).length=i:=by rw[pL_len,List.length_map,List.length_take];omega
 have hwm:=pL_mem ((ins.take i).map Φ)
 have hbd:((pL ((ins.take i).map Φ)).length+1)*248<=140737488355328:=by omega
 cases hx:ins[i]? with
 |some p=>
  have hlt:=(List.getElem?_eq_some_iff.1 hx).1
  have hilt:(i:Int)<es.length:=by omega
  have hg:=g1 i p hx
  have hL:=λrest=>liftRc (hf p (List.mem_of_getElem? hx)) (λf=>mA_ds f _) rest
  have ht:pL ((ins.take (i+1)).map Φ)=pL ((ins.take i).map Φ)++[(Φ p).ds]:=by rw[List.take_add_one,hx];simp[pL]
  obtain⟨A,hA⟩:∃z,z=pL ((ins.take i).map Φ):=⟨_,rfl⟩
  rw[<- hA] at hw1 hwm hbd ht ⊢
  obtain⟨op',n',dk',dr',xo',xn',xv',xm',xd',dx',dy',da',di',c1,c2⟩:=Pl.cut p
  obtain⟨op1,n1,dk1,dr1,xo1,xn1,xv1,xm1,xd1,dx1,dy1,da1,di1,c3,c4⟩:=Pl.cut (Φ p)
  have hg:es[((i:Nat):Int).toNat]?=some (ePld op' n' dk' dr' xo' xn' xv' xm' xd' dx' dy' da' di'):=by rw[<- c1];exact hg
  have hL:∀rest,CallSpec Tryz.prog g [.ptr 0 0,ePl op' n' dk' dr' xo' xn' xv' xm' xd' dx' dy' da' di'] ([.cells [.d din]]++rest) (λr' os'=>r'=ePl op1 n1 dk1 dr1 xo1 xn1 xv1 xm1 xd1 dx1 dy1 da1 di1/\os'=[.cells [.d din]]++rest):=λrest=>by rw[<- c2,<- c4];exact hL rest
  rw[c3] at ht
  clear g1 hx hA hf c1 c2 c3 c4 hS hc1 hc2 hc3
  repeat' first|refine st ?_|((with_reducible apply go_i);conv=>whnf)|((with_reducible first|apply k_nc|apply k_cs);(·exact hL _);(try rintro _ _ ⟨rfl,rfl⟩))|((with_reducible apply k_pr);(·exact hL _))|refine⟨λ_=>?_,λ_=>?_⟩|fail
  exact⟨i+1,rfl,rfl,by rw[ht];simp,by omega,by omega⟩
 |none=>
  have hge:=List.getElem?_eq_none_iff.1 hx
  have hilt:(es.length:Int)<=i:=by omega
  rw[List.take_of_length_le hge] at hw1 hwm hbd ⊢
  obtain⟨A,hA⟩:∃z,z=pL (ins.map Φ):=⟨_,rfl⟩
  rw[<- hA] at hw1 hwm hbd ⊢
  clear g1 hx hA hf hS hc1 hc2 hc3
  repeat' first|refine st ?_|((with_reducible apply go_i);conv=>whnf)|refine⟨λ_=>?_,λ_=>?_⟩|fail
  all_goals exact⟨by cases A<;>rfl,rfl⟩
end Go.Proofs
end
section
namespace Go.Proofs
open Go.Shelf
def Tryz.lays189_ren:Go.Shelf.Ren:=⟨fun|189=>122|125=>155|257=>154|128=>197|129=>198|294=>188|295=>189|296=>190|297=>191|298=>192|299=>193|216=>194|300=>195|301=>196|328=>219|329=>220|330=>221|331=>222|332=>223|215=>224|343=>234|n=>n,fun|28=>22|3=>3|46=>161|0=>0|51=>185|53=>187|4=>4|183=>178|182=>177|131=>168|5=>5|9=>9|218=>197|222=>201|228=>209|229=>117|n=>n,fun|n=>n⟩
theorem Tryz.lays189:Go.Proofs.Lays.n189 Tryz.prog Tryz.lays189_ren:={
 mixed:=by kernel_rfl
 f125:=Tryz.func155.trans (congrArg some (by kernel_rfl))
 f128:=Tryz.func197.trans (congrArg some (by kernel_rfl))
 f129:=Tryz.func198.trans (congrArg some (by kernel_rfl))
 f189:=Tryz.func122.trans (congrArg some (by kernel_rfl))
 f215:=Tryz.func224.trans (congrArg some (by kernel_rfl))
 f216:=Tryz.func194.trans (congrArg some (by kernel_rfl))
 f257:=Tryz.func154.trans (congrArg some (by kernel_rfl))
 f294:=Tryz.func188.trans (congrArg some (by kernel_rfl))
 f295:=Tryz.func189.trans (congrArg some (by kernel_rfl))
 f296:=Tryz.func190.trans (congrArg some (by kernel_rfl))
 f297:=Tryz.func191.trans (congrArg some (by kernel_rfl))
 f298:=Tryz.func192.trans (congrArg some (by kernel_rfl))
 f299:=Tryz.func193.trans (congrArg some (by kernel_rfl))
 f300:=Tryz.func195.trans (congrArg some (by kernel_rfl))
 f301:=Tryz.func196.trans (congrArg some (by kernel_rfl))
 f328:=Tryz.func219.trans (congrArg some (by kernel_rfl))
 f329:=Tryz.func220.trans (congrArg some (by kernel_rfl))
 f330:=Tryz.func221.trans (congrArg some (by kernel_rfl))
 f331:=Tryz.func222.trans (congrArg some (by kernel_rfl))
 f332:=Tryz.func223.trans (congrArg some (by kernel_rfl))
 f343:=Tryz.func234.trans (congrArg some (by kernel_rfl))
 t0:=Tryz.underlying0
 a0:=Tryz.isAgg0
 z0:=Tryz.sizeOf0
 v0:=Tryz.zeroValue0
 t3:=Tryz.underlying3
 a3:=Tryz.isAgg3
 z3:=Tryz.sizeOf3
 v3:=Tryz.zeroValue3
 t4:=Tryz.underlying4
 a4:=Tryz.isAgg4
 z4:=Tryz.sizeOf4
 v4:=Tryz.zeroValue4
 t5:=Tryz.underlying5
 a5:=Tryz.isAgg5
 z5:=Tryz.sizeOf5
 v5:=Tryz.zeroValue5
 t9:=Tryz.underlying9
 a9:=Tryz.isAgg9
 z9:=Tryz.sizeOf9
 v9:=Tryz.zeroValue9
 t28:=Tryz.underlying22
 a28:=Tryz.isAgg22
 z28:=Tryz.sizeOf22
 v28:=Tryz.zeroValue22
 t46:=Tryz.underlying161
 a46:=Tryz.isAgg161
 z46:=Tryz.sizeOf161
 v46:=Tryz.zeroValue161
 t51:=Tryz.underlying185
 a51:=Tryz.isAgg185
 z51:=Tryz.sizeOf185
 v51:=Tryz.zeroValue185
 t53:=Tryz.underlying187
 a53:=Tryz.isAgg187
 z53:=Tryz.sizeOf187
 v53:=Tryz.zeroValue187
 t131:=Tryz.underlying168
 a131:=Tryz.isAgg168
 z131:=Tryz.sizeOf168
 v131:=Tryz.zeroValue168
 t182:=Tryz.underlying177
 a182:=Tryz.isAgg177
 z182:=Tryz.sizeOf177
 v182:=Tryz.zeroValue177
 t183:=Tryz.underlying178
 a183:=Tryz.isAgg178
 z183:=Tryz.sizeOf178
 v183:=Tryz.zeroValue178
 t218:=Tryz.underlying197
 a218:=Tryz.isAgg197
 z218:=Tryz.sizeOf197
 v218:=Tryz.zeroValue197
 t222:=Tryz.underlying201
 a222:=Tryz.isAgg201
 z222:=Tryz.sizeOf201
 v222:=Tryz.zeroValue201
 t228:=Tryz.underlying209
 a228:=Tryz.isAgg209
 z228:=Tryz.sizeOf209
 v228:=Tryz.zeroValue209
 t229:=Tryz.underlying117
 a229:=Tryz.isAgg117
 z229:=Tryz.sizeOf117
 v229:=Tryz.zeroValue117}
def Tryz.laysNm220_ren:Go.Shelf.Ren:=⟨fun|20=>123|n=>n,fun|22=>22|3=>3|4=>4|0=>0|n=>n,fun|n=>n⟩
theorem Tryz.laysNm220:Go.Proofs.Lays2.n20 Tryz.prog Tryz.laysNm220_ren:={
 mixed:=by kernel_rfl
 f20:=Tryz.func123.trans (congrArg some (by kernel_rfl))
 t0:=Tryz.underlying0
 a0:=Tryz.isAgg0
 z0:=Tryz.sizeOf0
 v0:=Tryz.zeroValue0
 t3:=Tryz.underlying3
 a3:=Tryz.isAgg3
 z3:=Tryz.sizeOf3
 v3:=Tryz.zeroValue3
 t4:=Tryz.underlying4
 a4:=Tryz.isAgg4
 z4:=Tryz.sizeOf4
 v4:=Tryz.zeroValue4
 t22:=Tryz.underlying22
 a22:=Tryz.isAgg22
 z22:=Tryz.sizeOf22
 v22:=Tryz.zeroValue22
 i3:=by kernel_rfl}
end Go.Proofs
end
section
namespace Go.Proofs
open Go.Bi
theorem enters_Sort:Bi.Enters Tryz.prog N.slices_Sort__int_int:=⟨_,Tryz.func122,by kernel_rfl,by decide⟩
theorem enters_Compact:Bi.Enters Tryz.prog N.slices_Compact__int_int:=⟨_,Tryz.func123,by kernel_rfl,by decide⟩
def srt(zs:List Int):List Int:=zs.mergeSort λx y=>decide (x<=y)
theorem srt_len(zs:List Int):(srt zs).length=zs.length:=by simp[srt]
def cmp0(zs:List Int):List Int:=Lib.compact zs++List.replicate (zs.length-(Lib.compact zs).length) 0
theorem bnd_arr(n:Nat)(es:List (List D))(sz frz:Nat)(nl:Bool):(AO.arr es sz frz nl).bnd n:=by simp[AO.bnd]
theorem C.slices_Sort(zs:List Int)(nl:Bool)(hz:zs.length<4611686018427387904){os:List AO}{id:Nat}(ho:os[id]?=some (.arr (eIs zs) 1 0 nl)) :
  CallSpec Tryz.prog N.slices_Sort__int_int [.arr id (eIs zs).length] os (λr os'=>r=.tup []/\os'=os.set id (.arr (eIs (srt zs)) 1 0 nl)):=
 lift1 (λid=>[.arr id (eIs zs).length]) (sort_own Tryz.lays189 enters_Sort zs nl hz) (λ_=>rfl) (λ_=>rfl) (λ_=>rfl) (λ_ _=>rfl) (by simp[AV.bnd2,AV.bnd1]) (bnd_arr ..) ho
theorem C.slices_Compact(zs:List Int)(nl:Bool)(hz:zs.length<=9223372036854775807){os:List AO}{id:Nat}(ho:os[id]?=some (.arr (eIs zs) 1 0 nl)) :
  CallSpec Tryz.prog N.slices_Compact__int_int [.arr id (eIs zs).length] os (λr os'=>r=.d (if nl then .nil else .sl (eIs (Lib.compact zs)))/\os'=os.set id (.arr (eIs (cmp0 zs)) 1 (if nl then 0 else (Lib.compact zs).length) nl)):=
 lift1 (λid=>[.arr id (eIs zs).length]) (compact_own Tryz.laysNm220 enters_Compact zs nl hz) (λ_=>rfl) (λ_=>rfl) (λ_=>rfl) (λ_ _=>rfl) (by simp[AV.bnd2,AV.bnd1]) (bnd_arr ..) ho
mutual
def rawC:Ex->List Int
 |.mk op n v nm nl args=>(if op=2 then [n] else [])++rawCs args
def rawCs:List Ex->List Int
 |[]=>[]
 |a::l=>rawC a++rawCs l
end
theorem rawCs_eq:∀l,rawCs l=l.flatMap rawC
 |[]=>by simp[rawCs]
 |a::l=>by simp[rawCs,rawCs_eq l]
theorem rawC_mk(op n:Int)(v:Vl)(nm:List UInt8)(nl:Bool)(args:List Ex):rawC (.mk op n v nm nl args)=(if op=2 then [n] else [])++args.flatMap rawC:=by rw[rawC,rawCs_eq]
theorem flatMap_len2{l:List Ex}{f:Ex->List Int}(h:∀a∈l,(f a).length<=a.bk):(l.flatMap f).length<=bulkLL (xL l):=by
 induction l with
 |nil=>simp
 |cons a l ih=>
  have h1:=h a (by simp)
  have h2:=ih λb hb=>h b (by simp[hb])
  rw[List.flatMap_cons,List.length_append]
  simp only[xL,List.map_cons,bulkLL]
  unfold Ex.bk at h1
  unfold xL at h2
  omega
theorem rawC_len:∀e:Ex,(rawC e).length<=e.bk:=by
 refine Ex.ind λop n v nm nl args ih=>?_
 have hb:=Ex.bk_mk op n v nm nl args
 have:=flatMap_len2 ih
 rw[rawC_mk,List.length_append]
 split<;>simp only[List.length_cons,List.length_nil]<;>omega
def own(op n:Int):List Int:=if op=2 then [n] else []
theorem eIs_app2(a b:List Int):eIs (a++b)=eIs a++eIs b:=by simp[eIs]
theorem C.Columns_c1(op n:Int)(v:Vl)(nm:List UInt8)(d:D)(zs:List Int)(hz:zs.length<=4194304) :
  CallSpec Tryz.prog N.expr_Columns_c1 [eX op n v nm d,.ptr 0 0] [.cells [.arr 1 (eIs zs).length],.arr (eIs zs) 1 0 (eIs zs).isEmpty] (λr os=>r=.tup []/\os=[.cells [.arr 1 (eIs (zs++own op n)).length],.arr (eIs (zs++own op n)) 1 0 (eIs (zs++own op n)).isEmpty]):=by
 obtain⟨b,hb⟩:∃b,b=(eIs zs).isEmpty:=⟨_,rfl⟩
 rw[<- hb]
 have hl:=eIs_len zs
 unfold own
 by_cases h:op=2
 ·rw[if_pos h,eIs_app2]
  have e1:(eIs zs++eIs [n]).isEmpty=false:=by simp[eIs]
  rw[e1]
  refine F.expr_Columns_c1.goX mixed rfl ?_
  repeat' first|refine st ?_|refine⟨λ_=>?_,λ_=>?_⟩|fail
  all_goals exact⟨rfl,by simp[eIs]⟩
 ·rw[if_neg h,List.append_nil,<- hb]
  refine F.expr_Columns_c1.goX mixed rfl ?_
  repeat' first|refine st ?_|refine⟨λ_=>?_,λ_=>?_⟩|fail
  all_goals exact⟨rfl,rfl⟩
theorem mem2{α:Type}{x a b:α}(h:x∈[a,b]):x=a\/x=b:=by simpa using h
theorem pre2{g:FuncId}{ds:List D}{a:AV}(ha:a.bnd2 2){zs ys:List Int}(h:CallSpec Tryz.prog g [.agg (ds.map .d),a] [.cells [.arr 1 (eIs zs).length],.arr (eIs zs) 1 0 (eIs zs).isEmpty] (λr os=>r=.tup []/\os=[.cells [.arr 1 (eIs ys).length],.arr (eIs ys) 1 0 (eIs ys).isEmpty]))(rest:List AO) :
  CallSpec Tryz.prog g [.agg (ds.map .d),a] ([.cells [.arr 1 (eIs zs).length],.arr (eIs zs) 1 0 (eIs zs).isEmpty]++rest) (λr os=>r=.tup []/\os=[.cells [.arr 1 (eIs ys).length],.arr (eIs ys) 1 0 (eIs ys).isEmpty]++rest):=by
 refine CallSpec.pre h rest (λx hx=>?_) (λo ho=>?_) ?_
 ·rcases mem2 hx with rfl|rfl
  ·exact bnd_ds _ _
  ·exact ha
 ·rcases mem2 ho with rfl|rfl<;>simp[AO.bnd,AV.bnd1]
 ·rintro r bs' ⟨rfl,rfl⟩
  refine⟨rfl,λo ho=>?_,λf=>rfl,rfl,rfl⟩
  rcases mem2 ho with rfl|rfl<;>simp[AO.bnd,AV.bnd1]
theorem rawt_succ{l:List Ex}{i:Nat}{x:Ex}(h:l[i]?=some x):(l.take (i+1)).flatMap rawC=(l.take i).flatMap rawC++rawC x:=by
 rw[List.take_add_one,h];simp
theorem rawt_len(l:List Ex)(i:Nat):((l.take i).flatMap rawC).length<=bulkLL (xL l):=by
 have h1:((l.take i).flatMap rawC).length<=(l.flatMap rawC).length:=by
  conv=>rhs;rw[<- List.take_append_drop i l,List.flatMap_append,List.length_append]
  omega
 have h2:=flatMap_len2 (l:=l) (f:=rawC) (λa _=>rawC_len a)
 omega
theorem rawt_x:∀{l:List Ex}{i:Nat}{x:Ex},l[i]?=some x->((l.take i).flatMap rawC).length+x.bk<=bulkLL (xL l)
 |[],i,x,h=>by simp at h
 |a::l,0,x,h=>by
  simp at h
  subst h
  simp only[xL,List.map_cons,bulkLL,List.take_zero,List.flatMap_nil,List.length_nil]
  unfold Ex.bk
  omega
 |a::l,i+1,x,h=>by
  have:=rawt_x (l:=l) (i:=i) (x:=x) (by simpa using h)
  have h1:=rawC_len a
  rw[List.take_succ_cons,List.flatMap_cons,List.length_append]
  simp only[xL,List.map_cons,bulkLL]
  unfold Ex.bk at *
  unfold xL at this
  omega
theorem C.visit:∀e:Ex,e.bk<=1048576->∀zs:List Int,zs.length+e.bk<=2097152->CallSpec Tryz.prog N.expr_visit [e.av,.clo N.expr_Columns_c1 [0]] [.cells [.arr 1 (eIs zs).length],.arr (eIs zs) 1 0 (eIs zs).isEmpty] (λr os=>r=.tup []/\os=[.cells [.arr 1 (eIs (zs++rawC e)).length],.arr (eIs (zs++rawC e)) 1 0 (eIs (zs++rawC e)).isEmpty]):=by
 refine Ex.ind λop n v nm nl args ih hb zs hz=>?_
 obtain⟨b1,b2,b3,b4⟩:=Ex.bk_bounds hb
 have hbm:=Ex.bk_mk op n v nm nl args
 have hC1:∀rest,CallSpec Tryz.prog N.expr_Columns_c1 [eX op n v nm (ng nl (xL args)),.ptr 0 0] ([.cells [.arr 1 (eIs zs).length],.arr (eIs zs) 1 0 (eIs zs).isEmpty]++rest) (λr os=>r=.tup []/\os=[.cells [.arr 1 (eIs (zs++own op n)).length],.arr (eIs (zs++own op n)) 1 0 (eIs (zs++own op n)).isEmpty]++rest):=λrest=>
  pre2 (ds:=xds op n v nm (ng nl (xL args))) (by simp[AV.bnd2,AV.bnd1]) (C.Columns_c1 op n v nm _ zs (by omega)) rest
 rw[rawC_mk,<- own,<- List.append_assoc,Ex.av_mk]
 obtain⟨z1,hz1⟩:∃z,z=zs++own op n:=⟨_,rfl⟩
 have hz1l:z1.length<=zs.length+1:=by
  rw[hz1,List.length_append]
  unfold own
  split<;>simp
 rw[<- hz1] at hC1 ⊢
 have h1:=xL_len args
 have hm:=xL_mem args
 obtain⟨da,hda⟩:∃d,d=ng nl (xL args):=⟨_,rfl⟩
 have hsd:SlD da (xL args):=by rw[hda];exact sld_ng
 rw[<- hda] at hC1 ⊢
 have r0:v.k=v.k:=rfl
 have r1:v.s=v.s:=rfl
 have r2:nm=nm:=rfl
 refine F.expr_visit.goX mixed rfl ?_
 obtain⟨e0,he0⟩:∃b,b=(eIs zs).isEmpty:=⟨_,rfl⟩
 rw[<- he0] at hC1 ⊢
 repeat' first|refine st ?_|((with_reducible first|apply k_nc|apply k_cs);(·exact hC1 _);(try rintro _ _ ⟨rfl,rfl⟩))|((with_reducible apply k_pr);(·exact hC1 _))|refine⟨λ_=>?_,λ_=>?_⟩|fail
 refine x_loop1 mixed Lt.expr_visit_l0 Lk.expr_visit_l0 (λ(i:Nat)=>[.d (eI i)]) (λi=>[.cells [.arr 1 (eIs (z1++(args.take i).flatMap rawC)).length],.arr (eIs (z1++(args.take i).flatMap rawC)) 1 0 (eIs (z1++(args.take i).flatMap rawC)).isEmpty]++[.cells [.d (eI op),.d (eI n),.d (eI v.k),.d (eI v.n),.d (.str v.s),.d (.str nm),.d da]]) (λi=>i<=args.length) (λi=>args.length-i) 0 rfl rfl rfl (by simp) (λ_ _=>⟨rfl,rfl⟩) rfl (Nat.zero_le _) ?_
 repeat' first|refine st ?_|refine⟨λ_=>?_,λ_=>?_⟩|fail
 intro i h4
 have hrl:=rawt_len args i
 cases hx:args[i]? with
 |some x=>
  have hlt:=(List.getElem?_eq_some_iff.1 hx).1
  have hgx:=xL_get hx
  have hxm:=List.mem_of_getElem? hx
  have hxb:bulkL x.ds<=bulkLL (xL args):=bulkLL_mem (List.mem_map.2 ⟨x,hxm,rfl⟩)
  have hxk:=Ex.bk_arg (op:=op) (n:=n) (v:=v) (name:=nm) (nl:=nl) hxm
  have hs:=rawt_succ hx
  obtain⟨t,ht⟩:∃t,t=z1++(args.take i).flatMap rawC:=⟨_,rfl⟩
  have hi:=ih x hxm (b4 x hxm) t (by
   have h0:=rawt_x hx
   rw[ht,List.length_append]
   omega)
  have hn:z1++(args.take (i+1)).flatMap rawC=t++rawC x:=by rw[hs,ht,List.append_assoc]
  rw[<- hn] at hi
  rw[<- ht]
  have hL:=λrest=>pre2 (ds:=x.ds) (by simp[AV.bnd2,AV.bnd1]) hi rest
  obtain⟨e1,he1⟩:∃b,b=(eIs t).isEmpty:=⟨_,rfl⟩
  rw[<- he1] at hL ⊢
  obtain⟨o1,n1,v1,m1,l1,a1⟩:=x
  rw[Ex.ds_mk] at hgx hL
  repeat' first|refine st ?_|((with_reducible first|apply k_nc|apply k_cs);(·exact hL _);(try rintro _ _ ⟨rfl,rfl⟩))|((with_reducible apply k_pr);(·exact hL _))|refine⟨λ_=>?_,λ_=>?_⟩|fail
  exact⟨i+1,rfl,rfl,rfl,by omega,by omega⟩
 |none=>
  have hge:=List.getElem?_eq_none_iff.1 hx
  rw[List.take_of_length_le hge]
  repeat' first|refine st ?_|refine⟨λ_=>?_,λ_=>?_⟩|fail
  all_goals exact⟨rfl,rfl⟩
end Go.Proofs
end
section
namespace Go.Proofs
open Go.Bi
def Asc(l:List Int):Prop:=l.Pairwise (·<·)
theorem compact_asc(d:Array Int)(hs:∀i j:Nat,i<=j->j<d.size->d[i]!<=d[j]!):∀m,m<=d.size->Asc (Lib.compactUpTo d m)/\∀x,x∈Lib.compactUpTo d m↔∃j,j<m/\d[j]! = x
 |0,_=>by
  refine⟨by simp[Lib.compactUpTo,Asc],λx=>?_⟩
  simp[Lib.compactUpTo]
 |m+1,hm=>by
  obtain⟨h1,h2⟩:=compact_asc d hs m (by omega)
  rw[Lib.compactUpTo_succ]
  cases hk:Lib.keeps d m with
  |true=>
   rw[if_pos rfl]
   have hk':m=0\/d[m]!≠d[m-1]!:=of_decide_eq_true hk
   constructor
   ·refine List.pairwise_append.2 ⟨h1,by simp,λx hx y hy=>?_⟩
    simp at hy
    subst hy
    obtain⟨j,hj,rfl⟩:=(h2 x).1 hx
    have q1:=hs j (m-1) (by omega) (by omega)
    have q2:=hs (m-1) m (by omega) (by omega)
    rcases hk' with h0|hne
    ·omega
    ·omega
   ·intro x
    rw[List.mem_append,h2]
    constructor
    ·rintro(⟨j,hj,e⟩|hx)
     ·exact⟨j,by omega,e⟩
     ·simp at hx;exact⟨m,by omega,hx.symm⟩
    ·rintro⟨j,hj,e⟩
     rcases Nat.lt_succ_iff_lt_or_eq.1 hj with h|rfl
     ·exact .inl ⟨j,h,e⟩
     ·exact .inr (by simp[e])
  |false=>
   rw[if_neg (by decide),List.append_nil]
   have hk':¬(m=0\/d[m]!≠d[m-1]!):=of_decide_eq_false hk
   refine⟨h1,λx=>?_⟩
   rw[h2]
   constructor
   ·rintro⟨j,hj,e⟩;exact⟨j,by omega,e⟩
   ·rintro⟨j,hj,e⟩
    rcases Nat.lt_succ_iff_lt_or_eq.1 hj with h|rfl
    ·exact⟨j,h,e⟩
    ·have q1:¬j=0:=λe=>hk' (.inl e)
     have q2:d[j]! = d[j-1]!:=Classical.byContradiction λe=>hk' (.inr e)
     exact⟨j-1,by omega,by rw[<- q2];exact e⟩
theorem compact_srt(zs:List Int):Asc (Lib.compact (srt zs))/\∀x,x∈Lib.compact (srt zs)↔x∈zs:=by
 have hp:(srt zs).Pairwise λa b=>a<=b:=by
  have:=List.pairwise_mergeSort (le:=λx y:Int=>decide (x<=y)) (by intro a b c h1 h2;simp at *;omega) (by intro a b;simp;omega) zs
  refine this.imp λh=>?_
  simpa using h
 have hsz:(srt zs).toArray.size=(srt zs).length:=by simp
 have hget:∀i,i<(srt zs).length->(srt zs).toArray[i]! = (srt zs).getD i 0:=by
  intro i hi
  rw[getElem!_pos _ i (by simpa using hi),List.getD_eq_getElem?_getD,List.getElem?_eq_getElem hi]
  simp
 have hs:∀i j:Nat,i<=j->j<(srt zs).toArray.size->(srt zs).toArray[i]!<=(srt zs).toArray[j]!:=by
  intro i j hij hj
  rw[hsz] at hj
  rw[hget i (by omega),hget j hj]
  rcases Nat.lt_or_ge i j with h|h
  ·have:=List.pairwise_iff_getElem.1 hp i j (by omega) hj h
   rw[List.getD_eq_getElem?_getD,List.getD_eq_getElem?_getD,List.getElem?_eq_getElem (show i<_ by omega),List.getElem?_eq_getElem hj]
   exact this
  ·obtain rfl:i=j:=by omega
   exact Int.le_refl _
 obtain⟨h1,h2⟩:=compact_asc (srt zs).toArray hs (srt zs).length (by simp)
 refine⟨h1,λx=>?_⟩
 unfold Lib.compact
 rw[h2]
 have hmem:x∈srt zs↔x∈zs:=by unfold srt;exact List.mem_mergeSort
 rw[<- hmem,List.mem_iff_getElem?]
 constructor
 ·rintro⟨j,hj,e⟩
  refine⟨j,?_⟩
  rw[hget j hj,List.getD_eq_getElem?_getD,List.getElem?_eq_getElem hj] at e
  rw[List.getElem?_eq_getElem hj]
  exact congrArg some e
 ·rintro⟨j,e⟩
  have hj:=(List.getElem?_eq_some_iff.1 e).1
  refine⟨j,hj,?_⟩
  rw[hget j hj,List.getD_eq_getElem?_getD,e];rfl
def cols(e:Ex):List Int:=Lib.compact (srt (rawC e))
def colsD(e:Ex):D:=if (eIs (rawC e)).isEmpty then .nil else .sl (eIs (cols e))
theorem cols_mem(e:Ex)(x:Int):x∈cols e↔x∈rawC e:=(compact_srt (rawC e)).2 x
theorem cols_len(e:Ex):(cols e).length<=e.bk:=by
 have h1:=compact_len (srt (rawC e))
 have h2:=srt_len (rawC e)
 have h3:=rawC_len e
 unfold cols
 omega
theorem colsD_sl(e:Ex):SlD (colsD e) (eIs (cols e)):=by
 unfold colsD
 split
 ·rename_i h
  have:rawC e=[]:=by
   cases hx:rawC e with
   |nil=>rfl
   |cons a l=>rw[hx] at h;cases h
  refine .inl ⟨rfl,?_⟩
  have hc:cols e=[]:=by
   rw[List.eq_nil_iff_forall_not_mem]
   intro x hx
   rw[cols_mem,this] at hx
   cases hx
  rw[hc];rfl
 ·exact .inr rfl
theorem C.expr_Columns(e:Ex)(he:e.bk<=1048576):Pure Tryz.prog N.expr_Columns [e.av] (.d (colsD e)):=by
 have hv:=C.visit e he [] (by simp;omega)
 rw[List.nil_append] at hv
 have hrl:=rawC_len e
 unfold colsD cols
 obtain⟨zs,hzs⟩:∃z,z=rawC e:=⟨_,rfl⟩
 rw[<- hzs] at hv hrl ⊢
 have hb:∀ds:List D,CallSpec Tryz.prog N.expr_visit [.agg (ds.map .d),.clo N.expr_Columns_c1 [0]] [.cells [.arr 1 0],.arr [] 1 0 true] (λr os=>r=.tup []/\os=[.cells [.arr 1 (eIs zs).length],.arr (eIs zs) 1 0 (eIs zs).isEmpty])->∀E:List AV,CallSpec Tryz.prog N.expr_visit [.agg (ds.map .d),.clo N.expr_Columns_c1 [1]] [.cells E,.cells [.d .nil]] (λr os=>r=.tup []/\os=[.cells E,.cells [.arr 2 (eIs zs).length],.arr (eIs zs) 1 0 (eIs zs).isEmpty]):=by
  intro ds hE E
  refine CallSpec.nilc 1 0 1 rfl (cs:=[.d .nil]) rfl rfl ?_
  have:=CallSpec.frame (K:=λr os=>r=.tup []/\os=[.cells E,.cells [.arr 2 (eIs zs).length],.arr (eIs zs) 1 0 (eIs zs).isEmpty]) hE [1,2] [.cells E,.cells [.arr 2 0],.arr [] 1 0 true] rfl (by decide) (λi o h=>by
   match i,h with
   |0,h=>cases h;rfl
   |1,h=>cases h;rfl
   |i+2,h=>simp at h) (λa ha=>by
    rcases mem2 ha with rfl|rfl
    ·exact bnd_ds _ _
    ·simp[AV.bnd2,AV.bnd1]) (λo ho=>by
    rcases mem2 ho with rfl|rfl<;>simp[AO.bnd,AV.bnd1]) (by rintro r bs' ⟨rfl,rfl⟩;exact⟨rfl,rfl⟩)
  rw[List.map_cons,List.map_cons,List.map_nil,mG_ds] at this
  exact this
 have hB:=hb e.ds hv
 obtain⟨op,n,v,nm,nl,args⟩:=e
 rw[Ex.ds_mk] at hB
 rw[Ex.av_mk]
 obtain⟨b,hbb⟩:∃b,b=(eIs zs).isEmpty:=⟨_,rfl⟩
 rw[<- hbb] at hB ⊢
 have s1:∀(os:List AO) (id:Nat),os[id]?=some (.arr (eIs zs) 1 0 b)->CallSpec Tryz.prog N.slices_Sort__int_int [.arr id (eIs zs).length] os (λr os'=>r=.tup []/\os'=os.set id (.arr (eIs (srt zs)) 1 0 b)):=λos id ho=>C.slices_Sort zs b (by omega) ho
 have hsl:=srt_len zs
 have hle:(eIs zs).length=(eIs (srt zs)).length:=by rw[eIs_len,eIs_len,hsl]
 have s2:∀(os:List AO) (id:Nat),os[id]?=some (.arr (eIs (srt zs)) 1 0 b)->CallSpec Tryz.prog N.slices_Compact__int_int [.arr id (eIs zs).length] os (λr os'=>r=.d (if b then .nil else .sl (eIs (Lib.compact (srt zs))))/\os'=os.set id (.arr (eIs (cmp0 (srt zs))) 1 (if b then 0 else (Lib.compact (srt zs)).length) b)):=λos id ho=>by rw[hle];exact C.slices_Compact (srt zs) b (by omega) ho
 refine F.expr_Columns.go mixed rfl ?_
 cases b with
 |true=>
  repeat' first|(with_reducible apply k_cal)|refine st ?_|((with_reducible first|apply k_nc|apply k_cs);(·first|exact hB _|exact s1 _ _ rfl|exact s2 _ _ rfl);(try rintro _ _ ⟨rfl,rfl⟩))|((with_reducible apply k_pr);(·first|exact hB _|exact s1 _ _ rfl|exact s2 _ _ rfl))|refine⟨λ_=>?_,λ_=>?_⟩|fail
  all_goals rfl
 |false=>
  repeat' first|(with_reducible apply k_cal)|refine st ?_|((with_reducible first|apply k_nc|apply k_cs);(·first|exact hB _|exact s1 _ _ rfl|exact s2 _ _ rfl);(try rintro _ _ ⟨rfl,rfl⟩))|((with_reducible apply k_pr);(·first|exact hB _|exact s1 _ _ rfl|exact s2 _ _ rfl))|refine⟨λ_=>?_,λ_=>?_⟩|fail
  all_goals rfl
end Go.Proofs
end
