/- Texts of this claim, joined. No condition. -/
import Derived.Test.YtfnaleemmeejcaaGreatQ9
set_option linter.unusedSimpArgs false
set_option linter.unusedVariables false
set_option maxRecDepth 10000
set_option maxHeartbeats 4000000
section
namespace Go.Proofs
open Go.Bi
theorem bulkD_ngE(nl:Bool)(l:List (List D)):bulkD (ng nl l)=bulkLL l+1:=by
 unfold ng
 split
 ·rename_i h
  simp only[Bool.and_eq_true,List.isEmpty_iff] at h
  rw[h.2];rfl
 ·simp only[bulkD]
theorem Ex.bk_eq(op n:Int)(v:Vl)(nm:List UInt8)(nl:Bool)(args:List Ex):(Ex.mk op n v nm nl args).bk=bulkLL (xL args)+v.s.length+nm.length+7:=by
 rw[Ex.bk,Ex.ds_mk]
 simp only[bulkL,bulkD,bulkD_ngE]
 omega
theorem bulkLL_map{l:List Ex}{f:Ex->Ex}(h:∀x∈l,(f x).bk<=x.bk):bulkLL (xL (l.map f))<=bulkLL (xL l):=by
 induction l with
 |nil=>exact Nat.le_refl _
 |cons a l ih=>
  have h1:=h a (by simp)
  have h2:=ih λx hx=>h x (by simp[hx])
  unfold Ex.bk at h1
  simp only[List.map_cons,xL,bulkLL] at h2 ⊢
  omega
theorem tCat_mem{l:List Vl}{v:Vl}(h:v∈l):v.s.length<=(tCat l).length:=by
 induction l with
 |nil=>cases h
 |cons a l ih=>
  unfold tCat at ih ⊢
  rw[List.map_cons,List.flatten_cons,List.length_append]
  rcases List.mem_cons.1 h with rfl|h
  ·omega
  ·have:=ih h;omega
theorem tCat_getD(l:List Vl)(i:Nat):(l.getD i vNull).s.length<=(tCat l).length:=by
 rw[List.getD_eq_getElem?_getD]
 cases h:l[i]? with
 |none=>exact Nat.zero_le _
 |some v=>exact tCat_mem (List.mem_of_getElem? h)
theorem vBool_s(b:Bool):(vBool b).s=[]:=rfl
theorem vOf_s(t:Int):(vOf t).s=[]:=by
 unfold vOf
 repeat' split
 all_goals rfl
theorem vInt_s0(n:Int):(vInt n).s=[]:=by
 unfold vInt vOrN
 split<;>rfl
theorem vText_s(s:List UInt8):(vText s).s.length<=s.length:=by
 unfold vText vOrN
 split
 ·exact Nat.le_refl _
 ·exact Nat.zero_le _
theorem vPr_s(a b:Int):(vPr a b).s=[]:=by
 unfold vPr
 repeat' split
 all_goals first|rfl|exact vInt_s0 _
theorem vAri_s(op:Int)(l:List Vl):(vAri op l).s=[]:=by
 unfold vAri vAr vNeg vBin
 repeat' split
 all_goals first|rfl|exact vInt_s0 _|exact vPr_s _ _
theorem coa_s(l:List Vl):(coa l).s.length<=(tCat l).length:=by
 induction l with
 |nil=>exact Nat.zero_le _
 |cons a l ih=>
  rw[coa]
  split
  ·have:(tCat (a::l)).length=a.s.length+(tCat l).length:=by simp[tCat]
   omega
  ·exact tCat_mem (by simp)
theorem evOp_s(op n:Int)(v:Vl)(l:List Vl):(evOp op n v l []).s.length<=v.s.length+(tCat l).length:=by
 unfold evOp
 by_cases c1:op=1
 ·rw[if_pos c1];omega
 rw[if_neg c1]
 by_cases c2:op=2
 ·rw[if_pos c2]
  have:(vCol [] n).s=[]:=by
   unfold vCol vOrN
   split
   ·have:vAt [] n=vNull:=by
     unfold vAt
     repeat' split
     all_goals first|rfl|simp
    rw[this];rfl
   ·rfl
  rw[this];exact Nat.zero_le _
 rw[if_neg c2]
 by_cases c3:op=22
 ·rw[if_pos c3]
  have h1:=tCat_getD l 1
  have h2:=tCat_getD l 2
  split<;>omega
 rw[if_neg c3]
 by_cases c4:op=4
 ·rw[if_pos c4,vOf_s];exact Nat.zero_le _
 rw[if_neg c4]
 by_cases c5:op=5\/op=6
 ·rw[if_pos c5,vOf_s];exact Nat.zero_le _
 rw[if_neg c5]
 by_cases c6:op=21
 ·rw[if_pos c6,vBool_s];exact Nat.zero_le _
 rw[if_neg c6]
 by_cases c7:op=23
 ·rw[if_pos c7];have:=coa_s l;omega
 rw[if_neg c7]
 by_cases c8:op=24
 ·rw[if_pos c8]
  have:(vRel n (l.getD 0 vNull) (l.getD 1 vNull) (l.getD 2 vNull) (l.getD 3 vNull)).s=[]:=by
   unfold vRel
   split<;>rfl
  rw[this];exact Nat.zero_le _
 rw[if_neg c8]
 by_cases c9:op=19\/op=20
 ·rw[if_pos c9]
  unfold vTxt
  split
  ·split
   ·rw[vInt_s0];exact Nat.zero_le _
   ·have:=vText_s (tCat l);omega
  ·exact Nat.zero_le _
 rw[if_neg c9]
 by_cases c10:13<=op/\op<=18
 ·rw[if_pos c10,vAri_s];exact Nat.zero_le _
 rw[if_neg c10,vOf_s];exact Nat.zero_le _
theorem tCat_bk:∀(l:List Ex),(∀a∈l,(ev [] a).s.length+7<=a.bk)->(tCat (l.map (ev []))).length<=bulkLL (xL l)
 |[],_=>Nat.zero_le _
 |a::l,ih=>by
  have h3:=ih a (by simp)
  have h4:=tCat_bk l λx hx=>ih x (by simp[hx])
  unfold Ex.bk at h3
  have:(tCat ((a::l).map (ev []))).length=(ev [] a).s.length+(tCat (l.map (ev []))).length:=by simp[tCat]
  rw[this]
  simp only[xL,List.map_cons,bulkLL] at h4 ⊢
  omega
theorem ev_bk:∀e:Ex,(ev [] e).s.length+7<=e.bk:=by
 refine Ex.ind λop n v nm nl args ih=>?_
 rw[ev_mk,Ex.bk_eq]
 split
 ·have h1:=evOp_s op n v (args.map (ev []))
  have h2:=tCat_bk args ih
  omega
 ·show 0+7<=_
  omega
theorem cnA_bk(op:Int):∀l:List Ex,bulkLL (xL (cnA op l))<=bulkLL (xL l)
 |[]=>Nat.le_refl _
 |x::r=>by
  have h:=cnA_bk op r
  rw[cnA]
  split
  ·simp only[xL,List.map_cons,bulkLL] at h ⊢;omega
  ·simp only[xL,List.map_cons,bulkLL] at h ⊢;omega
theorem cnX_bk(op n:Int)(v:Vl)(nm:List UInt8)(l:List Ex):(cnX op n v nm l).bk<=bulkLL (xL l)+v.s.length+nm.length+7:=by
 unfold cnX
 split
 ·rw[Ex.bk_eq];simp[xL,bulkLL,vBool]<;>omega
 ·split
  ·rw[Ex.bk_eq];have:=cnA_bk op l;omega
  ·rw[Ex.bk_eq];exact Nat.le_refl _
theorem smp_bk:∀e:Ex,(smp e).bk<=e.bk:=by
 refine Ex.ind λop n v nm nl args ih=>?_
 rw[smp_mk]
 have h1:=bulkLL_map ih
 split
 ·have h2:=ev_bk (.mk op n v nm nl args)
  rw[Ex.bk_eq 1]
  simp only[xL,List.map_nil,bulkLL,List.length_nil]
  omega
 ·rw[Ex.bk_eq op n v nm nl]
  unfold smF
  split
  ·have:=cnX_bk op n v nm (args.map smp)
   omega
  ·rw[Ex.bk_eq];omega
theorem shf0_ok(ks:List Int)(hks:ks.length<=1048576):∀e:Ex,(chk ks e).2=0->chk ks (shf 0 e)=chk ks e/\(∀r,ev r (shf 0 e)=ev r e)/\dep (shf 0 e)=dep e:=by
 refine Ex.ind λop n v nm nl args ih h=>?_
 obtain⟨hf,h1,h2⟩:=chk_ok h
 have e1:shf 0 (.mk op n v nm nl args)=.mk op n v nm true (args.map (shf 0)):=by
  rw[shf_mk]
  by_cases h3:op=2
  ·obtain⟨h4,h5,h6⟩:=h2 h3
   rw[if_pos h3,Int.add_zero]
   have:w64 n=n:=by
    show IntKind.i64.wrap n=n
    rw[IntKind.wrap_i64]
    omega
   rw[this]
  ·rw[if_neg h3]
 have ha:∀a∈args,(chk ks a).2=0:=by
  by_cases h3:op=2
  ·rw[(h2 h3).2.2];intro a h;cases h
  ·exact(h1 h3).1
 have ih':=λa hm=>ih a hm (ha a hm)
 have m1:(args.map (shf 0)).map (chk ks)=args.map (chk ks):=by
  rw[List.map_map];exact List.map_congr_left λa hm=>(ih' a hm).1
 have m2:∀r,(args.map (shf 0)).map (ev r)=args.map (ev r):=λr=>by
  rw[List.map_map];exact List.map_congr_left λa hm=>(ih' a hm).2.1 r
 have m3:(args.map (shf 0)).map dep=args.map dep:=by
  rw[List.map_map];exact List.map_congr_left λa hm=>(ih' a hm).2.2
 rw[e1]
 refine⟨?_,λr=>?_,?_⟩
 ·rw[chk_mk,chk_mk,List.length_map,m1]
 ·rw[ev_mk,ev_mk,List.length_map,m2]
 ·rw[dep_mk,dep_mk,m3]
end Go.Proofs
end
section
namespace Go.Proofs
open Go.Bi
abbrev yesC:Ex:=cstX ⟨3,1,[]⟩
abbrev Pl.op:Pl->Int
 |.mk o _ _=>o.op
def fdX(o:Po):Ex:=if o.op=3\/o.op=5\/o.op=6 then smp (shf 0 o.pred) else shf 0 o.pred
abbrev fdO(o:Po):Po:=⟨o.op,o.n,o.nk,o.ki,true,o.rows,fdX o,true,o.xs.map (shf 0),o.ny,o.keys,o.na,o.aggs⟩
def fdN(o:Po)(l:List Pl):Pl:=
 match l with
 |[x]=>if (o.op=3/\smE (fdX o) yesC=true)\/(o.op=10/\x.op=10) then x else .mk (fdO o) true [x]
 |l=>.mk (fdO o) true l
mutual
/-- A plan, folded. -/
def fdP:Pl->Pl
 |.mk o _ ins=>fdN o (fdPs ins)
def fdPs:List Pl->List Pl
 |[]=>[]
 |p::r=>fdP p::fdPs r
end
theorem fdPs_eq:∀l,fdPs l=l.map fdP
 |[]=>by simp[fdPs]
 |e::r=>by simp[fdPs,fdPs_eq r]
theorem fdP_mk(o:Po)(ni:Bool)(ins:List Pl):fdP (.mk o ni ins)=fdN o (ins.map fdP):=by rw[fdP,fdPs_eq]
theorem fdN_one(o:Po)(x:Pl):fdN o [x]=if (o.op=3/\smE (fdX o) yesC=true)\/(o.op=10/\x.op=10) then x else .mk (fdO o) true [x]:=rfl
theorem fdN_not(o:Po)(l:List Pl)(h:l.length≠1):fdN o l=.mk (fdO o) true l:=by
 match l,h with
 |[],_=>rfl
 |_::_::_,_=>rfl
theorem C.optimize_Fold:∀p:Pl,p.bk<=1048576->Pure Tryz.prog N.optimize_Fold [p.av] (fdP p).av:=by
 refine Pl.ind λo ni ins ih hb=>?_
 have hB:=Pl.bd hb
 have hM:=C.mappedF N.optimize_Fold fdP o ni ins hb (λx hx=>ih x hx (hB.sub x hx))
 have hsb:(shf 0 o.pred).bk<=1048576:=Nat.le_trans (shf_bk 0 _) hB.pred
 have hS:=C.predicate_Simplify (shf 0 o.pred) hsb
 have hmb:=smp_bk (shf 0 o.pred)
 have hSm:=C.expr_Same (smp (shf 0 o.pred)) (by omega) yesC (by decide)
 have hV:=C.value_Bool true
 obtain⟨q,hq⟩:∃q,q=fdP (.mk o ni ins):=⟨_,rfl⟩
 rw[<- hq]
 rw[fdP_mk] at hq
 have hil:=hB.il
 obtain⟨l,hl⟩:∃l,l=ins.map fdP:=⟨_,rfl⟩
 have hll:l.length<=1048576:=by rw[hl,List.length_map];omega
 rw[<- hl] at hM hq
 clear hl ih hB hb hsb hmb hil
 obtain⟨op,n,nk,ki,nr,rows,pred,nx,xs,ny,keys,na,aggs⟩:=o
 have hX:fdX ⟨op,n,nk,ki,nr,rows,pred,nx,xs,ny,keys,na,aggs⟩=if op=3\/op=5\/op=6 then smp (shf 0 pred) else shf 0 pred:=rfl
 obtain⟨e3,he3⟩:∃e,e=fdX ⟨op,n,nk,ki,nr,rows,pred,nx,xs,ny,keys,na,aggs⟩:=⟨_,rfl⟩
 have hq1:l.length≠1->q=.mk ⟨op,n,nk,ki,true,rows,e3,true,xs.map (shf 0),ny,keys,na,aggs⟩ true l:=λh=>by rw[hq,fdN_not _ _ h,he3]
 have hq2:∀x,l=[x]->q=if (op=3/\smE e3 yesC=true)\/(op=10/\x.op=10) then x else .mk ⟨op,n,nk,ki,true,rows,e3,true,xs.map (shf 0),ny,keys,na,aggs⟩ true l:=λx h=>by rw[hq,h,fdN_one,he3]
 rw[<- he3] at hX
 clear hq he3
 dsimp only[cpO] at hM hS hSm
 obtain⟨e1,he1⟩:∃e,e=shf 0 pred:=⟨_,rfl⟩
 rw[<- he1] at hM hS hSm hX
 obtain⟨e2,he2⟩:∃e,e=smp e1:=⟨_,rfl⟩
 rw[<- he2] at hS hSm hX
 clear he1 he2
 obtain⟨sb,hsb⟩:∃b,b=smE e2 yesC:=⟨_,rfl⟩
 rw[<- hsb] at hSm
 have hX1:op=3\/op=5\/op=6->e3=e2:=λh=>by rw[hX,if_pos h]
 have hX2:¬(op=3\/op=5\/op=6)->e3=e1:=λh=>by rw[hX,if_neg h]
 clear hX
 obtain⟨xo,xn,xv,xm,xl,xa⟩:=pred
 obtain⟨yo,yn,yv,ym,yl,ya⟩:=e1
 obtain⟨zo,zn,zv,zm,zl,za⟩:=e2
 rw[Pl.av_eq _ _ _ _ _ _ _ _ _ rfl,Pl.av_eq _ _ _ _ _ _ _ _ _ rfl] at hM
 rw[Pl.av_eq _ _ _ _ _ _ _ _ _ rfl]
 rw[Ex.av_mk,Ex.av_mk] at hS hSm
 have hqa1:(Pl.mk ⟨op,n,nk,ki,true,rows,.mk zo zn zv zm zl za,true,xs.map (shf 0),ny,keys,na,aggs⟩ true l).av=ePl op n (ng nk (eIs ki)) (ng true (eRs rows)) zo zn zv zm (ng zl (xL za)) (ng true (xL (xs.map (shf 0)))) (ng ny (eIs keys)) (ng na (eAs aggs)) (ng true (pL l)):=Pl.av_eq _ _ _ _ _ _ _ _ _ rfl
 have hqa2:(Pl.mk ⟨op,n,nk,ki,true,rows,.mk yo yn yv ym yl ya,true,xs.map (shf 0),ny,keys,na,aggs⟩ true l).av=ePl op n (ng nk (eIs ki)) (ng true (eRs rows)) yo yn yv ym (ng yl (xL ya)) (ng true (xL (xs.map (shf 0)))) (ng ny (eIs keys)) (ng na (eAs aggs)) (ng true (pL l)):=Pl.av_eq _ _ _ _ _ _ _ _ _ rfl
 have hM:Bi.Pure Tryz.prog N.optimize_mapped [ePl op n (ng nk (eIs ki)) (ng nr (eRs rows)) xo xn xv xm (ng xl (xL xa)) (ng nx (xL xs)) (ng ny (eIs keys)) (ng na (eAs aggs)) (ng ni (pL ins)),.d (.fn N.optimize_Fold)] (ePl op n (ng nk (eIs ki)) (ng true (eRs rows)) yo yn yv ym (ng yl (xL ya)) (ng true (xL (xs.map (shf 0)))) (ng ny (eIs keys)) (ng na (eAs aggs)) (ng true (pL l))):=hM
 show Bi.Pure Tryz.prog N.optimize_Fold [ePl op n (ng nk (eIs ki)) (ng nr (eRs rows)) xo xn xv xm (ng xl (xL xa)) (ng nx (xL xs)) (ng ny (eIs keys)) (ng na (eAs aggs)) (ng ni (pL ins))] q.av
 have hdi:SlD (ng true (pL l)) (pL l):=sld_ng
 have l1:=pL_len l
 have m1:=pL_mem l
 have g1:∀x,l=[x]->(pL l)[(0:Nat)]?=some x.ds:=λx h=>by rw[h];rfl
 obtain⟨d1,h⟩:∃d,d=ng nk (eIs ki):=⟨_,rfl⟩
 rw[<- h] at hM hqa1 hqa2 ⊢;clear h
 obtain⟨d2,h⟩:∃d,d=ng nr (eRs rows):=⟨_,rfl⟩
 rw[<- h] at hM ⊢;clear h
 obtain⟨d3,h⟩:∃d,d=ng true (eRs rows):=⟨_,rfl⟩
 rw[<- h] at hM hqa1 hqa2;clear h
 obtain⟨d4,h⟩:∃d,d=ng xl (xL xa):=⟨_,rfl⟩
 rw[<- h] at hM ⊢;clear h
 obtain⟨d5,h⟩:∃d,d=ng nx (xL xs):=⟨_,rfl⟩
 rw[<- h] at hM ⊢;clear h
 obtain⟨d6,h⟩:∃d,d=ng ny (eIs keys):=⟨_,rfl⟩
 rw[<- h] at hM hqa1 hqa2 ⊢;clear h
 obtain⟨d7,h⟩:∃d,d=ng na (eAs aggs):=⟨_,rfl⟩
 rw[<- h] at hM hqa1 hqa2 ⊢;clear h
 obtain⟨d8,h⟩:∃d,d=ng ni (pL ins):=⟨_,rfl⟩
 rw[<- h] at hM ⊢;clear h
 obtain⟨d9,h⟩:∃d,d=ng yl (xL ya):=⟨_,rfl⟩
 rw[<- h] at hM hS hqa2;clear h
 obtain⟨d10,h⟩:∃d,d=ng zl (xL za):=⟨_,rfl⟩
 rw[<- h] at hS hSm hqa1;clear h
 obtain⟨d11,h⟩:∃d,d=ng true (xL (xs.map (shf 0))):=⟨_,rfl⟩
 rw[<- h] at hM hqa1 hqa2;clear h
 obtain⟨d12,h⟩:∃d,d=ng true (pL l):=⟨_,rfl⟩
 rw[<- h] at hM hqa1 hqa2 hdi;clear h
 obtain⟨es,h⟩:∃z,z=pL l:=⟨_,rfl⟩
 rw[<- h] at hdi l1 m1 g1;clear h
 have hSm:Bi.Pure Tryz.prog N.expr_Same [eX zo zn zv zm d10,eX 1 0 ⟨3,1,[]⟩ [] .nil] (.d (.bool sb)):=hSm
 have hV:Bi.Pure Tryz.prog N.value_Bool [.d (.bool true)] (eV ⟨3,1,[]⟩):=hV
 have r1:xv.s=xv.s:=rfl
 have r2:xm=xm:=rfl
 have r3:yv.s=yv.s:=rfl
 have r4:ym=ym:=rfl
 have r5:zv.s=zv.s:=rfl
 have r6:zm=zm:=rfl
 by_cases hlen:l.length=1
 rotate_left
 ·have hq1:=hq1 hlen
  have hne:¬(es.length:Int)=1:=by omega
  clear hq2 g1 hlen hSm hV hsb
  by_cases c:op=3\/op=5\/op=6
  ·rw[hX1 c] at hq1
   rw[<- hq1] at hqa1
   rw[hqa1]
   clear hX1 hX2 hq1 hqa1 hqa2
   refine F.optimize_Fold.go mixed rfl ?_
   rcases c with rfl|rfl|rfl
   all_goals skip
   all_goals repeat' first|refine st ?_|((with_reducible apply go_i);conv=>whnf)|refine⟨λ_=>?_,λ_=>?_⟩|fail
   all_goals first|rfl|(exfalso;omega)
  ·rw[hX2 c] at hq1
   rw[<- hq1] at hqa2
   rw[hqa2]
   have c3:¬op=3:=λh=>c (.inl h)
   have c5:¬op=5:=λh=>c (.inr (.inl h))
   have c6:¬op=6:=λh=>c (.inr (.inr h))
   clear hX1 hX2 hq1 hqa1 hqa2 hS c
   refine F.optimize_Fold.go mixed rfl ?_
   repeat' first|refine st ?_|((with_reducible apply go_i);conv=>whnf)|refine⟨λ_=>?_,λ_=>?_⟩|fail
   all_goals first|rfl|(exfalso;omega)
 ·obtain⟨x,hx⟩:∃x,l=[x]:=by
   match l,hlen with
   |[x],_=>exact⟨x,rfl⟩
  have hq2:=hq2 x hx
  have hg:=g1 x hx
  have hne:(es.length:Int)=1:=by omega
  clear hq1 g1 hlen hx
  obtain⟨op',n',dk',dr',xo',xn',xv',xm',xd',dx',dy',da',di',c1,c2⟩:=Pl.cut x
  have hxo:x.op=op':=by
   obtain⟨o,b,m⟩:=x
   rw[Pl.ds_mk] at c1
   have:=congrArg (λl=>l.getD 0 (eI 0)) c1
   exact D.int.inj this|>.2
  rw[c1] at hg
  rw[hxo] at hq2
  have r7:xv'.s=xv'.s:=rfl
  have r8:xm'=xm':=rfl
  by_cases c:op=3\/op=5\/op=6
  ·rw[hX1 c,<- hsb] at hq2
   by_cases c3:op=3
   ·subst c3
    cases sb with
    |true=>
     rw[if_pos (.inl ⟨rfl,rfl⟩)] at hq2
     rw[hq2,c2]
     clear hX1 hX2 hq2 hqa1 hqa2 hsb c c1 c2 hxo
     refine F.optimize_Fold.go mixed rfl ?_
     repeat' first|refine st ?_|((with_reducible apply go_i);conv=>whnf)|refine⟨λ_=>?_,λ_=>?_⟩|fail
     all_goals first|rfl|(exfalso;omega)
    |false=>
     rw[if_neg (by rintro(⟨_,h⟩|⟨h,_⟩)<;>cases h)] at hq2
     rw[<- hq2] at hqa1
     rw[hqa1]
     clear hX1 hX2 hq2 hqa1 hqa2 hsb c c1 c2 hxo
     refine F.optimize_Fold.go mixed rfl ?_
     repeat' first|refine st ?_|((with_reducible apply go_i);conv=>whnf)|refine⟨λ_=>?_,λ_=>?_⟩|fail
     all_goals first|rfl|(exfalso;omega)
   ·have c56:op=5\/op=6:=by omega
    rw[if_neg (by rintro(⟨h,_⟩|⟨h,_⟩)<;>omega)] at hq2
    rw[<- hq2] at hqa1
    rw[hqa1]
    clear hX1 hX2 hq2 hqa1 hqa2 hsb c c1 c2 hxo c3 hSm
    refine F.optimize_Fold.go mixed rfl ?_
    rcases c56 with rfl|rfl
    all_goals skip
    all_goals repeat' first|refine st ?_|((with_reducible apply go_i);conv=>whnf)|refine⟨λ_=>?_,λ_=>?_⟩|fail
    all_goals first|rfl|(exfalso;omega)
  ·rw[hX2 c] at hq2
   have c3:¬op=3:=λh=>c (.inl h)
   have c5:¬op=5:=λh=>c (.inr (.inl h))
   have c6:¬op=6:=λh=>c (.inr (.inr h))
   by_cases c10:op=10
   ·subst c10
    by_cases cx:op'=10
    ·rw[if_pos (.inr ⟨rfl,cx⟩)] at hq2
     rw[hq2,c2]
     subst cx
     clear hX1 hX2 hq2 hqa1 hqa2 hsb c c1 c2 hxo c3 c5 c6 hSm hS
     refine F.optimize_Fold.go mixed rfl ?_
     repeat' first|refine st ?_|((with_reducible apply go_i);conv=>whnf)|refine⟨λ_=>?_,λ_=>?_⟩|fail
     all_goals first|rfl|(exfalso;omega)
    ·rw[if_neg (by rintro(⟨h,_⟩|⟨_,h⟩)<;>omega)] at hq2
     rw[<- hq2] at hqa2
     rw[hqa2]
     clear hX1 hX2 hq2 hqa1 hqa2 hsb c c1 c2 hxo c3 c5 c6 hSm hS
     refine F.optimize_Fold.go mixed rfl ?_
     repeat' first|refine st ?_|((with_reducible apply go_i);conv=>whnf)|refine⟨λ_=>?_,λ_=>?_⟩|fail
     all_goals first|rfl|(exfalso;omega)
   ·rw[if_neg (by rintro(⟨h,_⟩|⟨h,_⟩)<;>omega)] at hq2
    rw[<- hq2] at hqa2
    rw[hqa2]
    clear hX1 hX2 hq2 hqa1 hqa2 hsb c c1 c2 hxo hSm hS
    refine F.optimize_Fold.go mixed rfl ?_
    repeat' first|refine st ?_|((with_reducible apply go_i);conv=>whnf)|refine⟨λ_=>?_,λ_=>?_⟩|fail
    all_goals first|rfl|(exfalso;omega)
end Go.Proofs
end
section
namespace Go.Proofs
open Go.Bi
theorem mrg_id:∀(a b:List Row),(∀x∈a,∀y∈b,cmpR x y<=0)->mrg a b=a++b
 |[],b,_=>by rw[mrg];rfl
 |x::a,[],_=>by rw[mrg_nil,List.append_nil]
 |x::a,y::b,h=>by
  have h1:=h x (by simp) y (by simp)
  have h2:=cmpR_ord.sw x y
  rw[mrg,if_neg (by omega),mrg_id a (y::b) λu hu v hv=>h u (by simp[hu]) v hv];rfl
theorem ordR_id:∀(n:Nat)(l:List Row),l.length<=n->Srt l->ordR l=l
 |0,l,h,_=>by rw[ordR,dif_pos (by omega)]
 |n+1,l,h,hs=>by
  rw[ordR]
  split
  ·rfl
  ·rename_i h1
   have h2:Srt (l.take (l.length / 2)):=List.Pairwise.sublist (List.take_sublist _ _) hs
   have h3:Srt (l.drop (l.length / 2)):=List.Pairwise.sublist (List.drop_sublist _ _) hs
   have h4:Srt (l.take (l.length / 2)++l.drop (l.length / 2)):=by rw[List.take_append_drop];exact hs
   rw[ordR_id n _ (by rw[List.length_take];omega) h2,ordR_id n _ (by rw[List.length_drop];omega) h3,mrg_id _ _ (List.pairwise_append.1 h4).2.2,List.take_append_drop]
def Sst(l:List Row):Prop:=l.Pairwise λa b=>cmpR a b<0
theorem Sst.srt{l:List Row}(h:Sst l):Srt l:=List.Pairwise.imp (λh=>by omega) h
theorem dstS_id:∀(l:List Row)(p:Row),Sst (p::l)->dstR (some p) l=l
 |[],_,_=>rfl
 |x::r,p,h=>by
  have h1:=List.pairwise_cons.1 h
  have h2:=h1.1 x (by simp)
  rw[dstR,if_neg (by omega),dstS_id r x h1.2]
theorem dstS_str:∀(l:List Row)(p:Row),Srt (p::l)->Sst (p::dstR (some p) l)
 |[],p,_=>by simp[dstR,Sst]
 |x::r,p,h=>by
  have h1:=List.pairwise_cons.1 h
  have h2:=h1.1 x (by simp)
  have ih:=dstS_str r x h1.2
  rw[dstR]
  by_cases h3:cmpR p x=0
  ·rw[if_pos h3,(cmpR_ord.eq _ _).1 h3];exact ih
  ·rw[if_neg h3]
   refine List.pairwise_cons.2 ⟨λy hy=>?_,ih⟩
   rcases List.mem_cons.1 hy with rfl|hy
   ·omega
   ·exact cmpR_ord.tr _ x _ (by omega) ((List.pairwise_cons.1 ih).1 y hy)
theorem dstN_str{l:List Row}(h:Srt l):Sst (dstR none l):=by
 cases l with
 |nil=>exact List.Pairwise.nil
 |cons x r=>rw[dstR];exact dstS_str r x h
theorem dstN_id{l:List Row}(h:Sst l):dstR none l=l:=by
 cases l with
 |nil=>rfl
 |cons x r=>rw[dstR,dstS_id r x h]
theorem repL_srt(f:Nat->Nat->Int):∀(w:List (Row×Nat))(ms:List Nat),StrC w->Srt (repL f w ms)
 |[],_,_=>by simp[repL,Srt]
 |p::r,[],_=>by simp[repL,Srt]
 |p::r,m::ms,h=>by
  have h1:=List.pairwise_cons.1 h
  rw[repL]
  refine List.pairwise_append.2 ⟨List.pairwise_replicate.2 (.inr (by have:=(cmpR_ord.eq p.1 p.1).2 rfl;omega)),repL_srt f r ms h1.2,λu hu v hv=>?_⟩
  obtain⟨_,rfl⟩:=List.mem_replicate.1 hu
  obtain⟨q,hq,rfl⟩:=repL_mem f r ms v hv
  have:=h1.1 q hq
  omega
theorem evB_srt(I:List Bg)(p:Pl):∃L,(evB I p).rows=rw0 L/\Srt L/\(p.op=10->Sst L):=by
 obtain⟨o,ni,ins⟩:=p
 rw[evB_mk]
 show ∃L,_/\_/\(o.op=10->_)
 unfold evN
 by_cases h10:o.op=10
 ·rw[if_neg (by omega),if_neg (by omega),if_neg (by omega),if_neg (by omega),if_pos h10]
  have h:=dstN_str (ordR_srt _ (vsR ((ins.map (evB I)).getD 0 bg0).rows) (Nat.le_refl _))
  exact⟨_,rfl,h.srt,λ_=>h⟩
 ·repeat' split
  all_goals first|exact⟨_,rfl,ordR_srt _ _ (Nat.le_refl _),λh=>absurd h h10⟩|exact⟨_,rfl,repL_srt _ _ _ (cntL_str _),λh=>absurd h h10⟩|(exfalso;omega)
theorem prE_ok{ks:List Int}{e:Ex}(h:prE ks e=0):(chk ks e).2=0/\((chk ks e).1=3\/(chk ks e).1=0)/\dep e<=24:=by
 unfold prE ckT at h
 by_cases hd:24<dep e
 ·rw[if_pos hd] at h;cases h
 ·rw[if_neg hd] at h
  split at h
  ·rename_i h1
   split at h
   ·rename_i h2;exact⟨h1,h2,by omega⟩
   ·cases h
  ·rename_i h1;exact absurd h h1
theorem prE_mk{ks:List Int}{e:Ex}(h1:(chk ks e).2=0)(h2:(chk ks e).1=3\/(chk ks e).1=0)(h3:dep e<=24):prE ks e=0:=by
 have:ckT ks e=chk ks e:=if_neg (by omega)
 unfold prE
 rw[this,if_pos h1,if_pos h2]
theorem prE_fd{ks:List Int}(hks:ks.length<=1048576){e:Ex}(h:prE ks e=0):prE ks (smp (shf 0 e))=0/\∀r,ev r (smp (shf 0 e))=ev r e:=by
 obtain⟨h1,h2,h3⟩:=prE_ok h
 obtain⟨a1,a2,a3⟩:=shf0_ok ks hks e h1
 obtain⟨b1,b2,b3,b4⟩:=smp_ok ks (shf 0 e) (by rw[a1];exact h1)
 rw[a1] at b3
 rw[a3] at b4
 refine⟨prE_mk b2 ?_ (by omega),λr=>by rw[b1,a2]⟩
 rcases b3 with b3|b3
 ·rw[b3];exact h2
 ·exact .inr b3
theorem prj_fd{ks:List Int}(hks:ks.length<=1048576):∀{xs:List Ex},(prjF ks xs).2=0->prjF ks (xs.map (shf 0))=prjF ks xs/\∀r,vlR (xs.map (shf 0)) r=vlR xs r
 |[],_=>⟨rfl,λ_=>rfl⟩
 |x::l,h=>by
  rw[prjF] at h
  by_cases h1:(ckT ks x).2=0
  rotate_left
  ·rw[if_neg h1] at h;exact absurd h h1
  rw[if_pos h1] at h
  by_cases h2:(ckT ks x).1=0
  ·rw[if_pos h2] at h;cases h
  rw[if_neg h2] at h
  by_cases h3:(prjF ks l).2=0
  rotate_left
  ·rw[if_neg h3] at h;exact absurd h h3
  obtain⟨i1,i2⟩:=prj_fd hks h3
  have hd:¬24<dep x:=λhd=>by unfold ckT at h1;rw[if_pos hd] at h1;cases h1
  have h1':(chk ks x).2=0:=by unfold ckT at h1;rw[if_neg hd] at h1;exact h1
  obtain⟨a1,a2,a3⟩:=shf0_ok ks hks x h1'
  have hc:ckT ks (shf 0 x)=ckT ks x:=by unfold ckT;rw[a3,a1]
  refine⟨?_,λr=>?_⟩
  ·rw[List.map_cons,prjF,prjF,hc,i1]
  ·have:=i2 r
   unfold vlR at this ⊢
   rw[List.map_cons,List.map_cons,List.map_cons,a2,this]
theorem smE_yes{e:Ex}(h:smE e yesC=true)(r:Row):ev r e=⟨3,1,[]⟩:=by
 obtain⟨op,n,v,nm,nl,args⟩:=e
 have h:smE (.mk op n v nm nl args) (.mk 1 0 ⟨3,1,[]⟩ [] true [])=true:=h
 rw[smE_mk] at h
 simp only[Bool.and_eq_true,decide_eq_true_eq] at h
 obtain⟨⟨⟨⟨rfl,rfl⟩,rfl⟩,rfl⟩,h5⟩:=h
 cases args with
 |cons a l=>simp[smL] at h5
 |nil=>
  rw[ev_mk]
  have hf:fmd 1 0 ⟨3,1,[]⟩ [] ([]:List Ex).length=true:=by decide
  rw[hf];rfl
theorem jnR_cong{e e':Ex}(h:trB e=trB e')(left:Bool)(nb:Nat)(B:List Row):∀A,jnR e left nb B A=jnR e' left nb B A
 |[]=>rfl
 |a::r=>by
  have hA:jnA e B a=jnA e' B a:=by unfold jnA;rw[h]
  rw[jnR,jnR,hA,jnR_cong h left nb B r]
def flO(o:Po)(ins:List Pl):Bool:=!(decide (o.op=3)&&smE o.pred yesC)&&(decide (o.op≠10)||decide (ins.length≠1)||decide ((ins[0]?).map Pl.op≠some 10))
mutual
/-- No node without effect. -/
def flB:Pl->Bool
 |.mk o _ ins=>flBs ins&&flO o ins
def flBs:List Pl->Bool
 |[]=>true
 |p::r=>flB p&&flBs r
end
theorem flBs_eq:∀l,flBs l=l.all flB
 |[]=>by simp[flBs]
 |e::r=>by simp[flBs,flBs_eq r]
theorem flB_mk(o:Po)(ni:Bool)(ins:List Pl):flB (.mk o ni ins)=(ins.all flB&&flO o ins):=by rw[flB,flBs_eq]
end Go.Proofs
end
section
namespace Go.Proofs
open Go.Bi
structure PoC(o o':Po):Prop where
 op:o'.op=o.op
 n:o'.n=o.n
 nk:o'.nk=o.nk
 ki:o'.ki=o.ki
 rows:o'.rows=o.rows
 keys:o'.keys=o.keys
 aggs:o'.aggs=o.aggs
 pred:o.op=3\/o.op=5\/o.op=6->∀ks:List Int,ks.length<=1048576->prE ks o.pred=0->prE ks o'.pred=0/\∀r,ev r o'.pred=ev r o.pred
 xs:∀ks:List Int,ks.length<=1048576->(prjF ks o.xs).2=0->prjF ks o'.xs=prjF ks o.xs/\∀r,vlR o'.xs r=vlR o.xs r
theorem PoC.fd(o:Po):PoC o (fdO o):=by
 refine⟨rfl,rfl,rfl,rfl,rfl,rfl,rfl,λh ks hks hp=>?_,λks hks hx=>prj_fd hks hx⟩
 show prE ks (fdX o)=0/\∀r,ev r (fdX o)=ev r o.pred
 unfold fdX
 rw[if_pos h]
 exact prE_fd hks hp
theorem resF_cong{K:List Kw}{o o':Po}(h:PoC o o'){k k':List Kw}(hk:∀i,(k'.getD i kw0).ks=(k.getD i kw0).ks)(hl:∀i,(k.getD i kw0).ks.length<=48)(h0:(resF K o k).2=0):(resF K o' k').2=0/\(resF K o' k').1.ks=(resF K o k).1.ks:=by
 have l0:=hl 0
 have l1:=hl 1
 unfold resF at h0 ⊢
 rw[h.op]
 by_cases c1:o.op=1
 ·rw[if_pos c1] at h0;rw[if_pos c1,if_pos c1,h.n];exact⟨h0,rfl⟩
 rw[if_neg c1] at h0;rw[if_neg c1,if_neg c1]
 by_cases c2:o.op=2
 ·rw[if_pos c2] at h0;rw[if_pos c2,if_pos c2,h.nk,h.ki,h.rows];exact⟨h0,rfl⟩
 rw[if_neg c2] at h0;rw[if_neg c2,if_neg c2]
 by_cases c4:o.op=4
 ·rw[if_pos c4] at h0;rw[if_pos c4,if_pos c4,hk 0,(h.xs _ (by omega) h0).1];exact⟨h0,rfl⟩
 rw[if_neg c4] at h0;rw[if_neg c4,if_neg c4]
 by_cases c11:o.op=11
 ·rw[if_pos c11] at h0;rw[if_pos c11,if_pos c11,hk 0,h.keys,h.aggs];exact⟨h0,rfl⟩
 rw[if_neg c11] at h0;rw[if_neg c11,if_neg c11]
 by_cases c10:o.op=10
 ·rw[if_pos c10] at h0;rw[if_pos c10,if_pos c10];exact⟨rfl,hk 0⟩
 rw[if_neg c10] at h0;rw[if_neg c10,if_neg c10]
 by_cases c3:o.op=3
 ·rw[if_pos c3] at h0;rw[if_pos c3,if_pos c3]
  refine⟨?_,hk 0⟩
  show prE _ _=0
  rw[hk 0]
  exact(h.pred (.inl c3) _ (by omega) h0).1
 rw[if_neg c3] at h0;rw[if_neg c3,if_neg c3]
 by_cases c5:o.op=5\/o.op=6
 ·rw[if_pos c5] at h0;rw[if_pos c5,if_pos c5,hk 0,hk 1]
  exact⟨(h.pred (.inr c5) _ (by rw[List.length_append];omega) h0).1,rfl⟩
 rw[if_neg c5] at h0;rw[if_neg c5,if_neg c5,hk 0,hk 1]
 by_cases d1:(k.getD 0 kw0).ks.length=(k.getD 1 kw0).ks.length
 rotate_left
 ·rw[if_neg d1] at h0;cases h0
 rw[if_pos d1] at h0;rw[if_pos d1,if_pos d1]
 by_cases d2:(k.getD 0 kw0).ks=(k.getD 1 kw0).ks
 rotate_left
 ·rw[if_neg d2] at h0;cases h0
 rw[if_pos d2,if_pos d2]
 exact⟨rfl,hk 0⟩
theorem feK_all:∀{l:List (Kw×Int)},(∀x∈l,x.2=0)->feK l=0
 |[],_=>rfl
 |y::l,h=>by rw[feK,if_pos (h y (by simp))];exact feK_all λx hx=>h x (by simp[hx])
theorem ndF_in{K:List Kw}{o:Po}{ni:Bool}{ins:List Pl}(h1:0<=inN o.op)(h2:(ins.length:Int)=inN o.op)(h3:∀p∈ins,(ndF K p).2=0)(h4:(resF K o (ins.map λp=>(ndF K p).1)).2=0)(h5:0<(resF K o (ins.map λp=>(ndF K p).1)).1.ks.length)(h6:(resF K o (ins.map λp=>(ndF K p).1)).1.ks.length<=48) :
  ndF K (.mk o ni ins)=((resF K o (ins.map λp=>(ndF K p).1)).1,0):=by
 rw[ndF_mk,ndN,if_neg (by omega),if_pos h2,if_pos (feK_all λx hx=>by obtain⟨p,hp,rfl⟩:=List.mem_map.1 hx;exact h3 p hp),List.map_map]
 show ndR (resF K o (ins.map λp=>(ndF K p).1))=_
 rw[ndR,if_pos h4,if_neg (by omega)]
theorem getD_map{α β:Type}(f:α->β)(l:List α)(i:Nat)(d:β):(l.map f).getD i d=((l[i]?).map f).getD d:=by
 rw[List.getD_eq_getElem?_getD,List.getElem?_map]
theorem ndF_cong{K:List Kw}{o o':Po}(h:PoC o o'){ni ni':Bool}{ins:List Pl}{Φ:Pl->Pl}(h0:(ndF K (.mk o ni ins)).2=0)(hc:∀x∈ins,(ndF K (Φ x)).2=0/\(ndF K (Φ x)).1.ks=(ndF K x).1.ks) :
  (ndF K (.mk o' ni' (ins.map Φ))).2=0/\(ndF K (.mk o' ni' (ins.map Φ))).1.ks=(ndF K (.mk o ni ins)).1.ks:=by
 obtain⟨k1,k2,k3,k4,k5,k6⟩:=ndF_ok h0
 have hn:=ndF_len K (.mk o ni ins)
 rw[k5] at k6 hn ⊢
 have hr:=resF_cong (K:=K) h (k:=ins.map λp=>(ndF K p).1) (k':=(ins.map Φ).map λp=>(ndF K p).1) (λi=>by
  rw[getD_map,getD_map,List.getElem?_map]
  cases hx:ins[i]? with
  |none=>rfl
  |some x=>exact(hc x (List.mem_of_getElem? hx)).2) (λi=>by
  rw[getD_map]
  cases hx:ins[i]? with
  |none=>exact Nat.zero_le _
  |some x=>exact ndF_len K x) k4
 have:=ndF_in (K:=K) (o:=o') (ni:=ni') (ins:=ins.map Φ) (by rw[h.op];exact k1) (by rw[List.length_map,h.op];exact k2) (λp hp=>by obtain⟨x,hx,rfl⟩:=List.mem_map.1 hp;exact(hc x hx).1) hr.1 (by rw[hr.2];exact k6) (by rw[hr.2];exact hn)
 rw[this]
 exact⟨rfl,hr.2⟩
theorem evN_cong{I:List Bg}{o o':Po}(h:PoC o o'){b b':List Bg}(hb:∀i,(b'.getD i bg0).ki=(b.getD i bg0).ki/\(b'.getD i bg0).rows=(b.getD i bg0).rows)(hp:o.op=3\/o.op=5\/o.op=6->trB o'.pred=trB o.pred)(hx:o.op=4->prjF (b.getD 0 bg0).ki o'.xs=prjF (b.getD 0 bg0).ki o.xs/\vlR o'.xs=vlR o.xs) :
  (evN I o' b').ki=(evN I o b).ki/\(evN I o' b').rows=(evN I o b).rows:=by
 obtain⟨a0,a1⟩:=hb 0
 obtain⟨b0,b1⟩:=hb 1
 unfold evN
 rw[h.op]
 by_cases c1:o.op=1
 ·rw[if_pos c1,if_pos c1,h.n];exact⟨rfl,rfl⟩
 rw[if_neg c1,if_neg c1]
 by_cases c2:o.op=2
 ·rw[if_pos c2,if_pos c2,h.ki,h.rows];exact⟨rfl,rfl⟩
 rw[if_neg c2,if_neg c2]
 by_cases c3:o.op=3
 ·rw[if_pos c3,if_pos c3,a0,a1,hp (.inl c3)];exact⟨rfl,rfl⟩
 rw[if_neg c3,if_neg c3]
 by_cases c4:o.op=4
 ·rw[if_pos c4,if_pos c4,a0,a1,(hx c4).1,(hx c4).2];exact⟨rfl,rfl⟩
 rw[if_neg c4,if_neg c4]
 by_cases c10:o.op=10
 ·rw[if_pos c10,if_pos c10,a0,a1];exact⟨rfl,rfl⟩
 rw[if_neg c10,if_neg c10]
 by_cases c11:o.op=11
 ·rw[if_pos c11,if_pos c11,a0,a1,h.keys,h.aggs];exact⟨rfl,rfl⟩
 rw[if_neg c11,if_neg c11]
 by_cases c5:o.op=5
 ·rw[if_pos c5,if_pos c5,a0,a1,b0,b1]
  refine⟨rfl,?_⟩
  show rw0 (ordR _)=rw0 (ordR _)
  rw[jnR_cong (hp (.inr (.inl c5)))]
 rw[if_neg c5,if_neg c5]
 by_cases c6:o.op=6
 ·rw[if_pos c6,if_pos c6,a0,a1,b0,b1]
  refine⟨rfl,?_⟩
  show rw0 (ordR _)=rw0 (ordR _)
  rw[jnR_cong (hp (.inr (.inr c6)))]
 rw[if_neg c6,if_neg c6]
 by_cases c7:o.op=7
 ·rw[if_pos c7,if_pos c7,a0,a1,b1];exact⟨rfl,rfl⟩
 rw[if_neg c7,if_neg c7]
 by_cases c8:o.op=8
 ·rw[if_pos c8,if_pos c8,a0,a1,b1];exact⟨rfl,rfl⟩
 rw[if_neg c8,if_neg c8,a0,a1,b1];exact⟨rfl,rfl⟩
theorem szF_cong{rs:List Int}{o o':Po}(h:PoC o o')(a b:Int):szF rs o' a b=szF rs o a b:=by
 unfold szF
 rw[h.op,h.n,h.rows,h.keys]
theorem szP_cong{rs:List Int}{o o':Po}(h:PoC o o'){ni ni':Bool}{ins:List Pl}{Φ:Pl->Pl}(hc:∀x∈ins,szP rs (Φ x)=szP rs x):szP rs (.mk o' ni' (ins.map Φ))=szP rs (.mk o ni ins):=by
 rw[szP,szP,szPs_getD,szPs_getD,szPs_getD,szPs_getD,szF_cong h]
 have:∀i:Nat,(((ins.map Φ)[i]?).map (szP rs)).getD 0=((ins[i]?).map (szP rs)).getD 0:=λi=>by
  rw[List.getElem?_map]
  cases hx:ins[i]? with
  |none=>rfl
  |some x=>exact hc x (List.mem_of_getElem? hx)
 rw[this,this]
theorem foldl_max_in:∀(l:List Int)(a B:Int),a<=B->(∀x∈l,x<=B)->l.foldl max a<=B
 |[],_,_,h,_=>h
 |y::l,a,B,h,h2=>foldl_max_in l (max a y) B (by have:=h2 y (by simp);omega) λx hx=>h2 x (by simp[hx])
theorem lgP_in{rs:List Int}{o:Po}{ni:Bool}{ins:List Pl}{B:Int}(h1:szP rs (.mk o ni ins)<=B)(h2:∀p∈ins,lgP rs p<=B):lgP rs (.mk o ni ins)<=B:=by
 rw[lgP,lgPs_eq]
 exact foldl_max_in _ _ _ h1 λx hx=>by obtain⟨p,hp,rfl⟩:=List.mem_map.1 hx;exact h2 p hp
theorem lgP_cong{rs:List Int}{o o':Po}(h:PoC o o'){ni ni':Bool}{ins:List Pl}{Φ:Pl->Pl}(hc:∀x∈ins,szP rs (Φ x)=szP rs x/\lgP rs (Φ x)<=lgP rs x):lgP rs (.mk o' ni' (ins.map Φ))<=lgP rs (.mk o ni ins):=by
 obtain⟨h1,h2⟩:=lgP_le (Int.le_refl (lgP rs (.mk o ni ins)))
 refine lgP_in (by rw[szP_cong h (ni:=ni) λx hx=>(hc x hx).1];exact h1) λp hp=>?_
 obtain⟨x,hx,rfl⟩:=List.mem_map.1 hp
 exact Int.le_trans (hc x hx).2 (h2 x hx)
theorem scP_cong{o o':Po}(h:PoC o o'){ni ni':Bool}{ins:List Pl}{Φ:Pl->Pl}(hc:∀x∈ins,scP (Φ x)=scP x):scP (.mk o' ni' (ins.map Φ))=scP (.mk o ni ins):=by
 rw[scP_mk,scP_mk,h.op,h.n,List.flatMap_def,List.flatMap_def,List.map_map]
 congr 2
 exact List.map_congr_left hc
theorem dpPs_map{Φ:Pl->Pl}:∀{l:List Pl},(∀x∈l,dpP (Φ x)<=dpP x)->dpPs (l.map Φ)<=dpPs l
 |[],_=>Nat.le_refl _
 |a::l,h=>by
  have h1:=h a (by simp)
  have h2:=dpPs_map λx hx=>h x (List.mem_cons_of_mem a hx)
  rw[List.map_cons,dpPs,dpPs]
  omega
theorem Pl.bk_eq(o:Po)(ni:Bool)(ins:List Pl):(Pl.mk o ni ins).bk=bulkLL (eIs o.ki)+bulkLL (eRs o.rows)+o.pred.bk+bulkLL (xL o.xs)+bulkLL (eIs o.keys)+bulkLL (eAs o.aggs)+bulkLL (pL ins)+8:=by
 obtain⟨op,n,nk,ki,nr,rows,⟨xo,xn,xv,xm,xl,xa⟩,nx,xs,ny,keys,na,aggs⟩:=o
 rw[Pl.bk,Pl.ds_eq _ _ _ _ _ _ _ _ _ rfl,Ex.bk,Ex.ds_mk]
 simp only[ePld,Po.dk,Po.dr,Po.dx,Po.dy,Po.da,xds,bulkL,bulkD,bulkD_ngE]
 omega
theorem pL_bulk_map{Φ:Pl->Pl}:∀{l:List Pl},(∀x∈l,(Φ x).bk<=x.bk)->bulkLL (pL (l.map Φ))<=bulkLL (pL l)
 |[],_=>Nat.le_refl _
 |a::l,h=>by
  have h1:=h a (by simp)
  have h2:=pL_bulk_map λx hx=>h x (List.mem_cons_of_mem a hx)
  unfold Pl.bk at h1
  simp only[pL,List.map_cons,bulkLL] at h2 ⊢
  omega
theorem bk_fd(o:Po)(ni:Bool)(ins:List Pl){Φ:Pl->Pl}(h:∀x∈ins,(Φ x).bk<=x.bk):(Pl.mk (fdO o) true (ins.map Φ)).bk<=(Pl.mk o ni ins).bk:=by
 rw[Pl.bk_eq,Pl.bk_eq]
 have h1:=pL_bulk_map h
 have h2:=bulkLL_map (l:=o.xs) λx _=>shf_bk 0 x
 have h3:(fdX o).bk<=o.pred.bk:=by
  unfold fdX
  split
  ·exact Nat.le_trans (smp_bk _) (shf_bk 0 _)
  ·exact shf_bk 0 _
 show bulkLL (eIs o.ki)+bulkLL (eRs o.rows)+(fdX o).bk+bulkLL (xL (o.xs.map (shf 0)))+bulkLL (eIs o.keys)+bulkLL (eAs o.aggs)+bulkLL (pL (ins.map Φ))+8<=_
 omega
end Go.Proofs
end
section
namespace Go.Proofs
open Go.Bi
structure PlE(I:List Bg)(p q:Pl):Prop where
 e:(ndF (ksI I) q).2=0
 ks:(ndF (ksI I) q).1.ks=(ndF (ksI I) p).1.ks
 ki:(evB I q).ki=(evB I p).ki
 rows:(evB I q).rows=(evB I p).rows
 sz:szP (rsI I) q=szP (rsI I) p
 lg:lgP (rsI I) q<=lgP (rsI I) p
 sc:scP q=scP p
 dp:dpP q<=dpP p
 bk:q.bk<=p.bk
theorem PlE.node{I:List Bg}(hI:InG I){o o':Po}(h:PoC o o'){ni ni':Bool}{ins:List Pl}{Φ:Pl->Pl}(hb:(Pl.mk o ni ins).bk<=1048576)(h0:(ndF (ksI I) (.mk o ni ins)).2=0)(hl:lgP (rsI I) (.mk o ni ins)<=2000)(hc:∀x∈ins,PlE I x (Φ x))(hbk:(Pl.mk o' ni' (ins.map Φ)).bk<=(Pl.mk o ni ins).bk) :
  PlE I (.mk o ni ins) (.mk o' ni' (ins.map Φ)):=by
 have hB:=Pl.bd hb
 obtain⟨k1,k2,k3,k4,k5,k6⟩:=ndF_ok h0
 obtain⟨m1,m2⟩:=lgP_le hl
 have hn:=ndF_cong (K:=ksI I) h (ni':=ni') h0 λx hx=>⟨(hc x hx).e,(hc x hx).ks⟩
 have hk:∀i,((ins.map (evB I)).getD i bg0).ki=((ins.map λp=>(ndF (ksI I) p).1).getD i kw0).ks:=λi=>by
  rw[getD_map,getD_map]
  cases hx:ins[i]? with
  |none=>rfl
  |some x=>
   have hm:=List.mem_of_getElem? hx
   exact(evB_good hI x (hB.sub x hm) (k3 x hm) (m2 x hm)).ki
 have hkl:∀i,((ins.map λp=>(ndF (ksI I) p).1).getD i kw0).ks.length<=48:=λi=>by
  rw[getD_map]
  cases hx:ins[i]? with
  |none=>exact Nat.zero_le _
  |some x=>exact ndF_len _ x
 have hev:=evN_cong (I:=I) h (b:=ins.map (evB I)) (b':=(ins.map Φ).map (evB I)) (λi=>by
  rw[getD_map,getD_map,List.getElem?_map]
  cases hx:ins[i]? with
  |none=>exact⟨rfl,rfl⟩
  |some x=>exact⟨(hc x (List.mem_of_getElem? hx)).ki,(hc x (List.mem_of_getElem? hx)).rows⟩) (λho=>by
  have hq:∃ks:List Int,ks.length<=1048576/\prE ks o.pred=0:=by
   have l0:=hkl 0
   have l1:=hkl 1
   unfold resF at k4
   rcases ho with ho|ho|ho
   ·rw[if_neg (by omega),if_neg (by omega),if_neg (by omega),if_neg (by omega),if_neg (by omega),if_pos ho] at k4
    exact⟨_,by omega,k4⟩
   ·rw[if_neg (by omega),if_neg (by omega),if_neg (by omega),if_neg (by omega),if_neg (by omega),if_neg (by omega),if_pos (.inl ho)] at k4
    exact⟨_,by rw[List.length_append];omega,k4⟩
   ·rw[if_neg (by omega),if_neg (by omega),if_neg (by omega),if_neg (by omega),if_neg (by omega),if_neg (by omega),if_pos (.inr ho)] at k4
    exact⟨_,by rw[List.length_append];omega,k4⟩
  obtain⟨ks,q1,q2⟩:=hq
  funext r
  unfold trB
  rw[(h.pred ho ks q1 q2).2 r]) (λho=>by
  have l0:=hkl 0
  unfold resF at k4
  rw[if_neg (by omega),if_neg (by omega),if_pos ho] at k4
  rw[hk 0]
  have:=h.xs _ (by omega) k4
  exact⟨this.1,funext this.2⟩)
 refine⟨hn.1,hn.2,?_,?_,szP_cong h λx hx=>(hc x hx).sz,lgP_cong h λx hx=>⟨(hc x hx).sz,(hc x hx).lg⟩,scP_cong h λx hx=>(hc x hx).sc,?_,hbk⟩
 ·rw[evB_mk,evB_mk];exact hev.1
 ·rw[evB_mk,evB_mk];exact hev.2
 ·have:=dpPs_map (l:=ins) (Φ:=Φ) λx hx=>(hc x hx).dp
  rw[dpP,dpP];omega
theorem fd_good{I:List Bg}(hI:InG I):∀p:Pl,p.bk<=1048576->(ndF (ksI I) p).2=0->lgP (rsI I) p<=2000->PlE I p (fdP p)/\flB (fdP p)=true:=by
 refine Pl.ind λo ni ins ih hb h0 hl=>?_
 have hB:=Pl.bd hb
 have hok:=ndF_ok h0
 obtain⟨k1,k2,k3,k4,k5,k6⟩:=hok
 obtain⟨m1,m2⟩:=lgP_le hl
 have ih':∀x∈ins,PlE I x (fdP x)/\flB (fdP x)=true:=λx hx=>ih x hx (hB.sub x hx) (k3 x hx) (m2 x hx)
 clear ih
 have hnode:=PlE.node hI (PoC.fd o) (ni':=true) hb h0 hl (λx hx=>(ih' x hx).1) (bk_fd o ni ins λx hx=>(ih' x hx).1.bk)
 have hall:(ins.map fdP).all flB=true:=by
  rw[List.all_eq_true]
  intro y hy
  obtain⟨x,hx,rfl⟩:=List.mem_map.1 hy
  exact(ih' x hx).2
 rw[fdP_mk]
 by_cases h1:ins.length=1
 rotate_left
 ·rw[fdN_not _ _ (by rw[List.length_map];exact h1)]
  refine⟨hnode,?_⟩
  rw[flB_mk,hall]
  have ho:o.op≠3:=λh=>by rw[h] at k2;have:inN 3=1:=rfl;omega
  unfold flO
  rw[decide_eq_false (show ¬(fdO o).op=3 from ho),List.length_map,decide_eq_true h1]
  simp
 ·obtain⟨x,hx⟩:∃x,ins=[x]:=by
   match ins,h1 with
   |[x],_=>exact⟨x,rfl⟩
  have hxm:x∈ins:=by rw[hx];simp
  obtain⟨hx1,hx2⟩:=ih' x hxm
  rw[show ins.map fdP=[fdP x] by rw[hx];rfl] at hnode hall ⊢
  rw[fdN_one]
  have hks:(resF (ksI I) o (ins.map λp=>(ndF (ksI I) p).1))=resF (ksI I) o [(ndF (ksI I) x).1]:=by rw[hx];rfl
  have hev:evB I (.mk o ni ins)=evN I o [evB I x]:=by rw[evB_mk,hx];rfl
  have hsz:szP (rsI I) (.mk o ni ins)=szF (rsI I) o (szP (rsI I) x) 0:=by rw[hx];rfl
  have hsc:scP (.mk o ni ins)=(if o.op=1 then [o.n] else [])++scP x:=by rw[scP_mk,hx];simp
  have hdp:dpP (.mk o ni ins)=dpP x+1:=by rw[dpP,hx];simp[dpPs]
  have hbk:x.bk<=(Pl.mk o ni ins).bk:=Nat.le_of_lt (Pl.bk_arg hxm)
  rw[hks] at k4 k5
  by_cases hc:(o.op=3/\smE (fdX o) yesC=true)\/(o.op=10/\(fdP x).op=10)
  rotate_left
  ·rw[if_neg hc]
   refine⟨hnode,?_⟩
   rw[flB_mk,hall]
   unfold flO
   have e1:(decide ((fdO o).op=3)&&smE (fdO o).pred yesC)=false:=by
    cases hd:decide ((fdO o).op=3) with
    |false=>rfl
    |true=>
     cases hs:smE (fdO o).pred yesC with
     |false=>rfl
     |true=>exact absurd (.inl ⟨of_decide_eq_true hd,hs⟩) hc
   have e2:(decide ((fdO o).op≠10)||decide ([fdP x].length≠1)||decide (([fdP x][0]?).map Pl.op≠some 10))=true:=by
    by_cases h10:o.op=10
    ·have:(fdP x).op≠10:=λh=>hc (.inr ⟨h10,h⟩)
     have e3:decide (([fdP x][0]?).map Pl.op≠some 10)=true:=decide_eq_true (by
      intro h
      exact this (Option.some.inj h))
     rw[e3,Bool.or_true]
    ·rw[decide_eq_true (show(fdO o).op≠10 from h10)];rfl
   rw[e1,e2];rfl
  ·rw[if_pos hc]
   refine⟨?_,hx2⟩
   have hrs:∃L,(evB I (fdP x)).rows=rw0 L/\Srt L/\((fdP x).op=10->Sst L):=evB_srt I (fdP x)
   obtain⟨L,r1,r2,r3⟩:=hrs
   have r4:vsR (evB I x).rows=L:=by rw[<- hx1.rows,r1,vsR_rw0]
   have hlg:lgP (rsI I) (fdP x)<=lgP (rsI I) (.mk o ni ins):=Int.le_trans hx1.lg ((lgP_le (Int.le_refl (lgP (rsI I) (.mk o ni ins)))).2 x hxm)
   have hlen:=ndF_len (ksI I) x
   rcases hc with ⟨ho,hs⟩|⟨ho,hs⟩
   ·have e1:resF (ksI I) o [(ndF (ksI I) x).1]=((ndF (ksI I) x).1,prE (ndF (ksI I) x).1.ks o.pred):=by
     unfold resF
     rw[if_neg (by omega),if_neg (by omega),if_neg (by omega),if_neg (by omega),if_neg (by omega),if_pos ho];rfl
    rw[e1] at k4 k5
    have e2:=(prE_fd (by omega) k4).2
    have e3:fdX o=smp (shf 0 o.pred):=by unfold fdX;rw[if_pos (.inl ho)]
    rw[e3] at hs
    have e4:∀r,trB o.pred r=true:=λr=>by
     unfold trB
     rw[<- e2 r,smE_yes hs r];rfl
    have e5:evN I o [evB I x]=⟨(evB I x).nk,(evB I x).ki,false,rw0 (ordR ((vsR (evB I x).rows).filter (trB o.pred)))⟩:=by
     unfold evN
     rw[if_neg (by omega),if_neg (by omega),if_pos ho];rfl
    have e6:(vsR (evB I x).rows).filter (trB o.pred)=vsR (evB I x).rows:=List.filter_eq_self.2 λr _=>e4 r
    refine⟨hx1.e,by rw[k5];exact hx1.ks,?_,?_,?_,hlg,?_,by rw[hdp];have:=hx1.dp;omega,Nat.le_trans hx1.bk hbk⟩
    ·rw[hev,e5];exact hx1.ki
    ·rw[hev,e5,e6,r4,ordR_id _ _ (Nat.le_refl _) r2];exact r1
    ·rw[hsz,hx1.sz];unfold szF;rw[if_neg (by omega),if_neg (by omega),if_pos (.inl ho)]
    ·rw[hsc,if_neg (by omega)];exact hx1.sc
   ·have e1:resF (ksI I) o [(ndF (ksI I) x).1]=((ndF (ksI I) x).1,0):=by
     unfold resF
     rw[if_neg (by omega),if_neg (by omega),if_neg (by omega),if_neg (by omega),if_pos ho];rfl
    rw[e1] at k5
    have e5:evN I o [evB I x]=⟨(evB I x).nk,(evB I x).ki,false,rw0 (dstR none (ordR (vsR (evB I x).rows)))⟩:=by
     unfold evN
     rw[if_neg (by omega),if_neg (by omega),if_neg (by omega),if_neg (by omega),if_pos ho];rfl
    refine⟨hx1.e,by rw[k5];exact hx1.ks,?_,?_,?_,hlg,?_,by rw[hdp];have:=hx1.dp;omega,Nat.le_trans hx1.bk hbk⟩
    ·rw[hev,e5];exact hx1.ki
    ·rw[hev,e5,r4,ordR_id _ _ (Nat.le_refl _) r2,dstN_id (r3 hs)];exact r1
    ·rw[hsz,hx1.sz];unfold szF;rw[if_neg (by omega),if_neg (by omega),if_pos (.inr (.inr (.inl ho)))]
    ·rw[hsc,if_neg (by omega)];exact hx1.sc
end Go.Proofs
end
section
namespace Go.Proofs
open Go.Bi
theorem C.r48_Scans:∀p:Pl,p.bk<=1048576->Pure Tryz.prog N.bt_ref48_Scans [p.av] (.d (.sl (eIs (scP p)))):=by
 refine Pl.ind λo ni ins ih hb=>?_
 have hB:=Pl.bd hb
 have hbk:∀i:Nat,((if o.op=1 then [o.n] else [])++(ins.take i).flatMap scP).length<=1048576:=λi=>by
  have h1:=scP_bk (.mk o ni ins)
  rw[scP_mk] at h1
  have h2:((ins.take i).flatMap scP).length<=(ins.flatMap scP).length:=by
   conv=>rhs;rw[<- List.take_append_drop i ins,List.flatMap_append,List.length_append]
   omega
  rw[List.length_append] at h1 ⊢
  omega
 have hq:=scP_mk o ni ins
 obtain⟨q,hqq⟩:∃q,q=scP (.mk o ni ins):=⟨_,rfl⟩
 rw[<- hqq] at hq ⊢
 clear hqq
 obtain⟨xo,xn,xv,xm,xd,hav,_⟩:=Pl.cuto o ni ins
 rw[hav]
 have hdi:SlD (ng ni (pL ins)) (pL ins):=sld_ng
 obtain⟨dk,e1⟩:∃d,d=o.dk:=⟨_,rfl⟩
 obtain⟨dr,e2⟩:∃d,d=o.dr:=⟨_,rfl⟩
 obtain⟨dx,e3⟩:∃d,d=o.dx:=⟨_,rfl⟩
 obtain⟨dy,e4⟩:∃d,d=o.dy:=⟨_,rfl⟩
 obtain⟨da,e5⟩:∃d,d=o.da:=⟨_,rfl⟩
 obtain⟨di,e6⟩:∃d,d=ng ni (pL ins):=⟨_,rfl⟩
 rw[<- e1,<- e2,<- e3,<- e4,<- e5,<- e6]
 rw[<- e6] at hdi
 clear e1 e2 e3 e4 e5 e6 hav
 have l1:=pL_len ins
 have m1:=pL_mem ins
 have g1:=λi p=>@pL_get ins i p
 obtain⟨es,hes⟩:∃z,z=pL ins:=⟨_,rfl⟩
 rw[<- hes] at hdi l1 m1 g1
 clear hes
 have hil:=hB.il
 have hsub:=hB.sub
 clear hB hb
 obtain⟨op,hop⟩:∃x,x=o.op:=⟨_,rfl⟩
 obtain⟨n,hn⟩:∃x,x=o.n:=⟨_,rfl⟩
 rw[<- hop,<- hn] at hq ⊢
 have hbk:∀i:Nat,((if op=1 then [n] else [])++(ins.take i).flatMap scP).length<=1048576:=by rw[hop,hn];exact hbk
 clear hop hn
 obtain⟨F0,hF⟩:∃z,z=if op=1 then [n] else []:=⟨_,rfl⟩
 rw[<- hF] at hq hbk
 by_cases h1:op=1
 ·subst h1
  rw[if_pos rfl] at hF
  subst hF
  refine F.bt_ref48_Scans.go mixed rfl ?_
  repeat' first|refine st ?_|((with_reducible apply go_i);conv=>whnf)|refine⟨λ_=>?_,λ_=>?_⟩|fail
  refine x_loop1 mixed Lt.bt_ref48_Scans_l0 Lk.bt_ref48_Scans_l0 (λ(i:Nat)=>[.arr 1 (eIs ([n]++(ins.take i).flatMap scP)).length,.d (eI i)]) (λi=>[.cells [.d (eI 1),.d (eI n),.d dk,.d dr,.d (eI xo),.d (eI xn),.d (eI xv.k),.d (eI xv.n),.d (.str xv.s),.d (.str xm),.d xd,.d dx,.d dy,.d da,.d di],.arr (eIs ([n]++(ins.take i).flatMap scP)) 1 0 false,.arr [[eI n]] 1 0 false]) (λi=>i<=ins.length) (λi=>ins.length-i) 0 rfl rfl rfl rfl (λ_ _=>⟨rfl,rfl⟩) rfl (by omega) ?_
  repeat' first|refine st ?_|((with_reducible apply go_i);conv=>whnf)|refine⟨λ_=>?_,λ_=>?_⟩|fail
  intro i i1
  have hb1:=hbk i
  have hb2:=hbk (i+1)
  have hwl:=eIs_len ([n]++(ins.take i).flatMap scP)
  have hwm:=eIs_mem ([n]++(ins.take i).flatMap scP)
  cases hx:ins[i]? with
  |some p=>
   have hlt:=(List.getElem?_eq_some_iff.1 hx).1
   have hilt:(i:Int)<es.length:=by omega
   have hg:=g1 i p hx
   have hI:=ih p (List.mem_of_getElem? hx) (hsub p (List.mem_of_getElem? hx))
   have ht0:(ins.take (i+1)).flatMap scP=(ins.take i).flatMap scP++scP p:=by rw[List.take_add_one,hx];simp
   have ht:eIs ([n]++(ins.take (i+1)).flatMap scP)=eIs ([n]++(ins.take i).flatMap scP)++eIs (scP p):=by rw[ht0];simp[eIs]
   rw[ht0] at hb2
   have hsl:=eIs_len (scP p)
   have hsm:=eIs_mem (scP p)
   have hsd:SlD (.sl (eIs (scP p))) (eIs (scP p)):=.inr rfl
   obtain⟨A,hA⟩:∃z,z=eIs ([n]++(ins.take i).flatMap scP):=⟨_,rfl⟩
   rw[<- hA] at hwl hwm ht ⊢
   have hb3:A.length+(eIs (scP p)).length<=1048576:=by
    rw[hsl,hwl]
    simp only[List.length_append] at hb2 ⊢
    omega
   obtain⟨op',n',dk',dr',xo',xn',xv',xm',xd',dx',dy',da',di',c1,c2⟩:=Pl.cut p
   have hg:es[((i:Nat):Int).toNat]?=some (ePld op' n' dk' dr' xo' xn' xv' xm' xd' dx' dy' da' di'):=by rw[<- c1];exact hg
   rw[c2] at hI
   obtain⟨B,hB⟩:∃z,z=eIs (scP p):=⟨_,rfl⟩
   rw[<- hB] at hI ht hsm hsd hb3
   obtain⟨sd,hsdd⟩:∃z,z=D.sl B:=⟨_,rfl⟩
   rw[<- hsdd] at hI hsd
   have hbd:(A.length+B.length)*8<=140737488355328/\A.length+B.length<=9223372036854775807:=by omega
   clear hsl hB hA c1 c2 hx g1 ih hbk hb1 hb2 hwl
   subst hsdd
   repeat' first|refine st ?_|((with_reducible apply go_i);conv=>whnf)|refine⟨λ_=>?_,λ_=>?_⟩|fail
   exact⟨i+1,by rw[ht];simp,rfl,by rw[ht];simp,by omega,by omega⟩
  |none=>
   have hge:=List.getElem?_eq_none_iff.1 hx
   have hilt:(es.length:Int)<=i:=by omega
   rw[List.take_of_length_le hge] at hwl hwm hb1 ⊢
   rw[hq]
   obtain⟨A,hA⟩:∃z,z=eIs ([n]++ins.flatMap scP):=⟨_,rfl⟩
   rw[<- hA] at hwl hwm ⊢
   clear hx g1 ih hA
   repeat' first|refine st ?_|((with_reducible apply go_i);conv=>whnf)|refine⟨λ_=>?_,λ_=>?_⟩|fail
   all_goals rfl
 ·rw[if_neg h1] at hF
  subst hF
  have hq:q=ins.flatMap scP:=hq
  have hbk:∀i:Nat,((ins.take i).flatMap scP).length<=1048576:=hbk
  refine F.bt_ref48_Scans.go mixed rfl ?_
  repeat' first|refine st ?_|((with_reducible apply go_i);conv=>whnf)|refine⟨λ_=>?_,λ_=>?_⟩|fail
  refine x_loop1 mixed Lt.bt_ref48_Scans_l0 Lk.bt_ref48_Scans_l0 (λ(i:Nat)=>[.arr 1 (eIs ((ins.take i).flatMap scP)).length,.d (eI i)]) (λi=>[.cells [.d (eI op),.d (eI n),.d dk,.d dr,.d (eI xo),.d (eI xn),.d (eI xv.k),.d (eI xv.n),.d (.str xv.s),.d (.str xm),.d xd,.d dx,.d dy,.d da,.d di],.arr (eIs ((ins.take i).flatMap scP)) 1 0 false]) (λi=>i<=ins.length) (λi=>ins.length-i) 0 rfl rfl rfl rfl (λ_ _=>⟨rfl,rfl⟩) rfl (by omega) ?_
  repeat' first|refine st ?_|((with_reducible apply go_i);conv=>whnf)|refine⟨λ_=>?_,λ_=>?_⟩|fail
  intro i i1
  have hb1:=hbk i
  have hb2:=hbk (i+1)
  have hwl:=eIs_len ((ins.take i).flatMap scP)
  have hwm:=eIs_mem ((ins.take i).flatMap scP)
  cases hx:ins[i]? with
  |some p=>
   have hlt:=(List.getElem?_eq_some_iff.1 hx).1
   have hilt:(i:Int)<es.length:=by omega
   have hg:=g1 i p hx
   have hI:=ih p (List.mem_of_getElem? hx) (hsub p (List.mem_of_getElem? hx))
   have ht0:(ins.take (i+1)).flatMap scP=(ins.take i).flatMap scP++scP p:=by rw[List.take_add_one,hx];simp
   have ht:eIs ((ins.take (i+1)).flatMap scP)=eIs ((ins.take i).flatMap scP)++eIs (scP p):=by rw[ht0];simp[eIs]
   rw[ht0] at hb2
   have hsl:=eIs_len (scP p)
   have hsm:=eIs_mem (scP p)
   have hsd:SlD (.sl (eIs (scP p))) (eIs (scP p)):=.inr rfl
   obtain⟨A,hA⟩:∃z,z=eIs ((ins.take i).flatMap scP):=⟨_,rfl⟩
   rw[<- hA] at hwl hwm ht ⊢
   have hb3:A.length+(eIs (scP p)).length<=1048576:=by
    rw[hsl,hwl]
    simp only[List.length_append] at hb2 ⊢
    omega
   obtain⟨op',n',dk',dr',xo',xn',xv',xm',xd',dx',dy',da',di',c1,c2⟩:=Pl.cut p
   have hg:es[((i:Nat):Int).toNat]?=some (ePld op' n' dk' dr' xo' xn' xv' xm' xd' dx' dy' da' di'):=by rw[<- c1];exact hg
   rw[c2] at hI
   obtain⟨B,hB⟩:∃z,z=eIs (scP p):=⟨_,rfl⟩
   rw[<- hB] at hI ht hsm hsd hb3
   obtain⟨sd,hsdd⟩:∃z,z=D.sl B:=⟨_,rfl⟩
   rw[<- hsdd] at hI hsd
   have hbd:(A.length+B.length)*8<=140737488355328/\A.length+B.length<=9223372036854775807:=by omega
   clear hsl hB hA c1 c2 hx g1 ih hbk hb1 hb2 hwl
   subst hsdd
   repeat' first|refine st ?_|((with_reducible apply go_i);conv=>whnf)|refine⟨λ_=>?_,λ_=>?_⟩|fail
   exact⟨i+1,by rw[ht];simp,rfl,by rw[ht];simp,by omega,by omega⟩
  |none=>
   have hge:=List.getElem?_eq_none_iff.1 hx
   have hilt:(es.length:Int)<=i:=by omega
   rw[List.take_of_length_le hge] at hwl hwm hb1 ⊢
   rw[hq]
   obtain⟨A,hA⟩:∃z,z=eIs (ins.flatMap scP):=⟨_,rfl⟩
   rw[<- hA] at hwl hwm ⊢
   clear hx g1 ih hA
   repeat' first|refine st ?_|((with_reducible apply go_i);conv=>whnf)|refine⟨λ_=>?_,λ_=>?_⟩|fail
   all_goals rfl
theorem C.r48_Folded:∀p:Pl,p.bk<=1048576->flB p=true->Pure Tryz.prog N.bt_ref48_Folded [p.av] (.d (.bool true)):=by
 refine Pl.ind λo ni ins ih hb hfl=>?_
 have hB:=Pl.bd hb
 rw[flB_mk,Bool.and_eq_true,List.all_eq_true] at hfl
 obtain⟨hf1,hf2⟩:=hfl
 have hA:Bi.Pure Tryz.prog N.bt_ref12_All [.d .nil] (eX 1 0 ⟨3,1,[]⟩ [] .nil):=C.r12_All true [] (by simp)
 have hSm:=C.r11_Same o.pred (by have:=hB.pred;omega) yesC (by decide)
 have hC:∀x∈ins,Bi.Pure Tryz.prog N.bt_ref48_Folded [x.av] (.d (.bool true)):=λx hx=>ih x hx (hB.sub x hx) (hf1 x hx)
 clear ih hf1
 unfold flO at hf2
 rw[Bool.and_eq_true] at hf2
 obtain⟨hf2,hf3⟩:=hf2
 obtain⟨xo,xn,xv,xm,xd,hav,hpa⟩:=Pl.cuto o ni ins
 rw[hav]
 rw[hpa] at hSm
 have hdi:SlD (ng ni (pL ins)) (pL ins):=sld_ng
 obtain⟨dk,e1⟩:∃d,d=o.dk:=⟨_,rfl⟩
 obtain⟨dr,e2⟩:∃d,d=o.dr:=⟨_,rfl⟩
 obtain⟨dx,e3⟩:∃d,d=o.dx:=⟨_,rfl⟩
 obtain⟨dy,e4⟩:∃d,d=o.dy:=⟨_,rfl⟩
 obtain⟨da,e5⟩:∃d,d=o.da:=⟨_,rfl⟩
 obtain⟨di,e6⟩:∃d,d=ng ni (pL ins):=⟨_,rfl⟩
 rw[<- e1,<- e2,<- e3,<- e4,<- e5,<- e6]
 rw[<- e6] at hdi
 clear e1 e2 e3 e4 e5 e6 hav
 have l1:=pL_len ins
 have m1:=pL_mem ins
 have g1:=λi p=>@pL_get ins i p
 have hil:=hB.il
 clear hB hb hpa
 obtain⟨sb,hsb⟩:∃b,b=smE o.pred yesC:=⟨_,rfl⟩
 rw[<- hsb] at hSm hf2
 have hSm:Bi.Pure Tryz.prog N.bt_ref11_Same [eX xo xn xv xm xd,eX 1 0 ⟨3,1,[]⟩ [] .nil] (.d (.bool sb)):=hSm
 obtain⟨n,hn⟩:∃n,n=o.n:=⟨_,rfl⟩
 obtain⟨op,hop⟩:∃n,n=o.op:=⟨_,rfl⟩
 rw[<- hop] at hf2 hf3
 rw[<- hn,<- hop]
 clear hn hop hsb
 obtain⟨es,hes⟩:∃z,z=pL ins:=⟨_,rfl⟩
 rw[<- hes] at hdi l1 m1 g1
 clear hes
 have r1:xv.s=xv.s:=rfl
 have r2:xm=xm:=rfl
 refine F.bt_ref48_Folded.go mixed rfl ?_
 repeat' first|refine st ?_|((with_reducible apply go_i);conv=>whnf)|refine⟨λ_=>?_,λ_=>?_⟩|fail
 refine x_loop1 mixed Lt.bt_ref48_Folded_l0 Lk.bt_ref48_Folded_l0 (λ(i:Nat)=>[.d (eI i)]) (λi=>[.cells [.d (eI op),.d (eI n),.d dk,.d dr,.d (eI xo),.d (eI xn),.d (eI xv.k),.d (eI xv.n),.d (.str xv.s),.d (.str xm),.d xd,.d dx,.d dy,.d da,.d di]]) (λi=>i<=ins.length) (λi=>ins.length-i) 0 rfl rfl rfl rfl (λ_ _=>⟨rfl,rfl⟩) rfl (by omega) ?_
 repeat' first|refine st ?_|((with_reducible apply go_i);conv=>whnf)|refine⟨λ_=>?_,λ_=>?_⟩|fail
 intro i i1
 cases hx:ins[i]? with
 |some p=>
  have hlt:=(List.getElem?_eq_some_iff.1 hx).1
  have hilt:(i:Int)<es.length:=by omega
  have hg:=g1 i p hx
  have hI:=hC p (List.mem_of_getElem? hx)
  obtain⟨op',n',dk',dr',xo',xn',xv',xm',xd',dx',dy',da',di',c1,c2⟩:=Pl.cut p
  have hg:es[((i:Nat):Int).toNat]?=some (ePld op' n' dk' dr' xo' xn' xv' xm' xd' dx' dy' da' di'):=by rw[<- c1];exact hg
  rw[c2] at hI
  clear c1 c2 hx g1 hC hf2 hf3 hA hSm
  repeat' first|refine st ?_|((with_reducible apply go_i);conv=>whnf)|refine⟨λ_=>?_,λ_=>?_⟩|fail
  exact⟨i+1,rfl,rfl,rfl,by omega,by omega⟩
 |none=>
  have hge:=List.getElem?_eq_none_iff.1 hx
  have hilt:(es.length:Int)<=i:=by omega
  clear hx hC
  by_cases h3:op=3
  ·have hs0:sb=false:=by
    cases sb with
    |false=>rfl
    |true=>rw[decide_eq_true h3] at hf2;cases hf2
   subst hs0
   subst h3
   clear g1 hf2 hf3
   repeat' first|refine st ?_|((with_reducible apply go_i);conv=>whnf)|refine⟨λ_=>?_,λ_=>?_⟩|fail
   all_goals rfl
  ·by_cases h10:op=10
   rotate_left
   ·clear g1 hf2 hf3 hA hSm
    repeat' first|refine st ?_|((with_reducible apply go_i);conv=>whnf)|refine⟨λ_=>?_,λ_=>?_⟩|fail
    all_goals rfl
   ·subst h10
    by_cases hl1:ins.length=1
    rotate_left
    ·have hl2:¬(es.length:Int)=1:=by omega
     clear g1 hf2 hf3 hA hSm
     repeat' first|refine st ?_|((with_reducible apply go_i);conv=>whnf)|refine⟨λ_=>?_,λ_=>?_⟩|fail
     all_goals first|rfl|(exfalso;omega)
    ·have hl2:(es.length:Int)=1:=by omega
     obtain⟨x,hx⟩:∃x,ins[0]?=some x:=⟨_,List.getElem?_eq_getElem (by omega)⟩
     have hg:=g1 0 x hx
     have hx10:x.op≠10:=by
      rw[hx] at hf3
      intro h
      rw[decide_eq_false (show ¬(10:Int)≠10 from λh=>h rfl),decide_eq_false (show ¬ins.length≠1 from λh=>h hl1),decide_eq_false (show ¬((some x).map Pl.op≠some 10) from λh2=>h2 (congrArg some h))] at hf3
      cases hf3
     obtain⟨op',n',dk',dr',xo',xn',xv',xm',xd',dx',dy',da',di',c1,c2⟩:=Pl.cut x
     have hxo:x.op=op':=by
      obtain⟨o,b,m⟩:=x
      rw[Pl.ds_mk] at c1
      have:=congrArg (λl=>l.getD 0 (eI 0)) c1
      exact D.int.inj this|>.2
     rw[hxo] at hx10
     rw[c1] at hg
     clear g1 hf2 hf3 hA hSm c1 c2 hx hxo
     repeat' first|refine st ?_|((with_reducible apply go_i);conv=>whnf)|refine⟨λ_=>?_,λ_=>?_⟩|fail
     all_goals first|rfl|(simp[hx10];done)|(exfalso;omega)
theorem C.r08_List_same(l:List Row)(hl:l.length<=4194304)(hr:∀r∈l,r.length<=4194304):Pure Tryz.prog N.bt_ref08_List [.d (.sl (rD l)),.d (.sl (rD l))] (.d (.bool true)):=by
 have l1:=rD_len l
 have m1:=rD_mem l
 have g1:=λi v=>@rD_get l i v
 have hE:∀r∈l,Pure Tryz.prog N.bt_ref08_Equal [.d (.sl (eVs r)),.d (.sl (eVs r))] (.d (.bool true)):=λr h=>by
  have:=C.r8_Equal r r (hr r h) (hr r h) _ _ (.inr rfl) (.inr rfl)
  rw[show cmpR r r=0 from(cmpR_ord.eq r r).2 rfl] at this
  exact this
 obtain⟨es,hes⟩:∃z,z=rD l:=⟨_,rfl⟩
 rw[<- hes] at l1 m1 g1 ⊢
 clear hes
 refine F.bt_ref08_List.go mixed rfl ?_
 repeat' first|refine st ?_|((with_reducible apply go_i);conv=>whnf)|refine⟨λ_=>?_,λ_=>?_⟩|fail
 refine x_loop1 mixed Lt.bt_ref08_List_l0 Lk.bt_ref08_List_l0 (λ(i:Nat)=>[.d (eI i)]) (λi=>[]) (λi=>i<=l.length) (λi=>l.length-i) 0 rfl rfl rfl rfl (λ_ _=>⟨rfl,rfl⟩) rfl (by omega) ?_
 repeat' first|refine st ?_|((with_reducible apply go_i);conv=>whnf)|refine⟨λ_=>?_,λ_=>?_⟩|fail
 intro i i1
 cases hx:l[i]? with
 |some r=>
  have hlt:=(List.getElem?_eq_some_iff.1 hx).1
  have hilt:(i:Int)<es.length:=by omega
  have hg:es[((i:Nat):Int).toNat]?=some [.sl (eVs r)]:=g1 i r hx
  have hI:=hE r (List.mem_of_getElem? hx)
  clear hx g1 hE
  repeat' first|refine st ?_|((with_reducible apply go_i);conv=>whnf)|refine⟨λ_=>?_,λ_=>?_⟩|fail
  exact⟨i+1,rfl,rfl,rfl,by omega,by omega⟩
 |none=>
  have hge:=List.getElem?_eq_none_iff.1 hx
  have hilt:(es.length:Int)<=i:=by omega
  clear hx hE g1
  repeat' first|refine st ?_|((with_reducible apply go_i);conv=>whnf)|refine⟨λ_=>?_,λ_=>?_⟩|fail
  all_goals rfl
theorem C.r08_Same_same(l:List Rw)(hl:l.length<=4194304)(hr:∀r∈l,r.vs.length<=4194304)(d d':D)(hd:SlD d (eRs l))(hd':SlD d' (eRs l)):Pure Tryz.prog N.bt_ref08_Same [.d d,.d d'] (.d (.bool true)):=by
 have h1:=C.r8_Sort l hl hr d hd
 have h2:=C.r8_Sort l hl hr d' hd'
 have hvl:(vsR l).length=l.length:=by unfold vsR;rw[List.length_map]
 have h3:=C.r08_List_same (ordR (vsR l)) (by rw[ordR_len _ _ (Nat.le_refl _),hvl];exact hl) (λr h=>by
  obtain⟨x,hx,rfl⟩:=List.mem_map.1 (ordR_mem _ _ (Nat.le_refl _) r h)
  exact hr x hx)
 obtain⟨es,hes⟩:∃z,z=rD (ordR (vsR l)):=⟨_,rfl⟩
 rw[<- hes] at h1 h2 h3
 clear hes
 refine F.bt_ref08_Same.go mixed rfl ?_
 repeat' first|refine st ?_|((with_reducible apply go_i);conv=>whnf)|refine⟨λ_=>?_,λ_=>?_⟩|fail
 all_goals rfl
end Go.Proofs
end
section
namespace Go.Proofs
open Go.Bi
def szA(rs:List Int)(ins:List Pl)(i:Nat):Int:=((ins[i]?).map (szP rs)).getD 0
theorem C.Size_c1(rs:List Int)(dr':D)(op n:Int)(dk dr:D)(xo xn:Int)(xv:Vl)(xm:List UInt8)(xd dx dy da di:D)(ins:List Pl)(hil:ins.length<=1048576)(hdi:SlD di (pL ins))(i:Nat)(hi:i<=1)
  (ih:∀p∈ins,Pure Tryz.prog N.optimize_Size [p.av,.d dr'] (.d (eI (szP rs p)))) :
  CallSpec Tryz.prog N.optimize_Size_c1 [.d (eI i),.ptr 0 0,.ptr 1 0] [.cells [.d (eI op),.d (eI n),.d dk,.d dr,.d (eI xo),.d (eI xn),.d (eI xv.k),.d (eI xv.n),.d (.str xv.s),.d (.str xm),.d xd,.d dx,.d dy,.d da,.d di],.cells [.d dr']]
   (λr os=>r=.d (eI (szA rs ins i))/\os=[.cells [.d (eI op),.d (eI n),.d dk,.d dr,.d (eI xo),.d (eI xn),.d (eI xv.k),.d (eI xv.n),.d (.str xv.s),.d (.str xm),.d xd,.d dx,.d dy,.d da,.d di],.cells [.d dr']]):=by
 have l1:=pL_len ins
 have m1:=pL_mem ins
 have g1:=λi p=>@pL_get ins i p
 obtain⟨es,hes⟩:∃z,z=pL ins:=⟨_,rfl⟩
 rw[<- hes] at hdi l1 m1 g1
 clear hes
 obtain⟨q,hq⟩:∃q,q=szA rs ins i:=⟨_,rfl⟩
 rw[<- hq]
 unfold szA at hq
 have r0:xv.k=xv.k:=rfl
 have r1:xv.s=xv.s:=rfl
 have r2:xm=xm:=rfl
 cases hx:ins[i]? with
 |none=>
  rw[hx] at hq
  have hge:=List.getElem?_eq_none_iff.1 hx
  have h3:(es.length:Int)<=i:=by omega
  have hq:q=0:=hq
  subst hq
  clear g1 ih hx
  refine F.optimize_Size_c1.goX mixed rfl ?_
  repeat' first|refine st ?_|((with_reducible apply go_i);conv=>whnf)|refine⟨λ_=>?_,λ_=>?_⟩|fail
  all_goals exact⟨rfl,rfl⟩
 |some p=>
  rw[hx] at hq
  have hlt:=(List.getElem?_eq_some_iff.1 hx).1
  have h3:(i:Int)<es.length:=by omega
  have hq:q=szP rs p:=hq
  have hP:=ih p (List.mem_of_getElem? hx)
  rw[<- hq] at hP
  have hg:=g1 i p hx
  obtain⟨op',n',dk',dr0,xo',xn',xv',xm',xd',dx',dy',da',di',c1,c2⟩:=Pl.cut p
  have hg:es[((i:Nat):Int).toNat]?=some (ePld op' n' dk' dr0 xo' xn' xv' xm' xd' dx' dy' da' di'):=by rw[<- c1];exact hg
  rw[c2] at hP
  clear g1 ih hx hq c1 c2
  refine F.optimize_Size_c1.goX mixed rfl ?_
  repeat' first|refine st ?_|((with_reducible apply go_i);conv=>whnf)|refine⟨λ_=>?_,λ_=>?_⟩|fail
  all_goals exact⟨rfl,rfl⟩
theorem C.optimize_Size(rs:List Int)(hrs:rs.length<=1048576)(dr':D)(hdr:SlD dr' (eIs rs)):∀p:Pl,p.bk<=1048576->Pure Tryz.prog N.optimize_Size [p.av,.d dr'] (.d (eI (szP rs p))):=by
 refine Pl.ind λo ni ins ih hb=>?_
 have hB:=Pl.bd hb
 obtain⟨xo,xn,xv,xm,xd,hav,_⟩:=Pl.cuto o ni ins
 rw[hav]
 have hdi:SlD (ng ni (pL ins)) (pL ins):=sld_ng
 have hdy:SlD o.dy (eIs o.keys):=sld_ng
 have hdw:SlD o.dr (eRs o.rows):=sld_ng
 have kl:=eIs_len o.keys
 have wl:=eRs_len o.rows
 have hk1:=hB.keys
 have hw1:=hB.nr
 have hq:szP rs (.mk o ni ins)=szF rs o ((szPs rs ins).getD 0 0) ((szPs rs ins).getD 1 0):=rfl
 rw[szPs_getD,szPs_getD] at hq
 obtain⟨q,hqq⟩:∃q,q=szP rs (.mk o ni ins):=⟨_,rfl⟩
 rw[<- hqq] at hq ⊢
 clear hqq
 have hil:=hB.il
 have hC0:=λdk dr dx dy da=>C.Size_c1 rs dr' o.op o.n dk dr xo xn xv xm xd dx dy da (ng ni (pL ins)) ins hil hdi 0 (by omega) λp hp=>ih p hp (hB.sub p hp)
 have hC1:=λdk dr dx dy da=>C.Size_c1 rs dr' o.op o.n dk dr xo xn xv xm xd dx dy da (ng ni (pL ins)) ins hil hdi 1 (by omega) λp hp=>ih p hp (hB.sub p hp)
 have key:∀i:Nat,0<=szA rs ins i/\szA rs ins i<=mostN:=λi=>by
  unfold szA
  cases hx:ins[i]? with
  |none=>exact⟨Int.le_refl 0,show(0:Int)<=mostN by decide⟩
  |some p=>exact szP_bd rs p (hB.sub p (List.mem_of_getElem? hx))
 obtain⟨a1,a2⟩:=key 0
 obtain⟨b1,b2⟩:=key 1
 clear key ih
 have hq:q=szF rs o (szA rs ins 0) (szA rs ins 1):=hq
 obtain⟨a,ha⟩:∃a,a=szA rs ins 0:=⟨_,rfl⟩
 obtain⟨b,hbb⟩:∃a,a=szA rs ins 1:=⟨_,rfl⟩
 rw[<- ha] at hq a1 a2 hC0
 rw[<- hbb] at hq b1 b2 hC1
 clear ha hbb
 obtain⟨op,n,nk,ki,nr,rows,pred,nx,xs,ny,keys,na,aggs⟩:=o
 dsimp only at hdy hdw kl wl hk1 hw1 hq
 obtain⟨dk,e1⟩:∃d,d=ng nk (eIs ki):=⟨_,rfl⟩
 obtain⟨dr,e2⟩:∃d,d=ng nr (eRs rows):=⟨_,rfl⟩
 obtain⟨dx,e3⟩:∃d,d=ng nx (xL xs):=⟨_,rfl⟩
 obtain⟨dy,e4⟩:∃d,d=ng ny (eIs keys):=⟨_,rfl⟩
 obtain⟨da,e5⟩:∃d,d=ng na (eAs aggs):=⟨_,rfl⟩
 obtain⟨di,e6⟩:∃d,d=ng ni (pL ins):=⟨_,rfl⟩
 show Bi.Pure Tryz.prog N.optimize_Size [ePl op n (ng nk (eIs ki)) (ng nr (eRs rows)) xo xn xv xm xd (ng nx (xL xs)) (ng ny (eIs keys)) (ng na (eAs aggs)) (ng ni (pL ins)),.d dr'] (.d (eI q))
 rw[<- e6] at hC0 hC1
 have hC0:=hC0 dk dr dx dy da
 have hC1:=hC1 dk dr dx dy da
 dsimp only at hC0 hC1
 rw[<- e1,<- e2,<- e3,<- e4,<- e5,<- e6]
 have hdy:SlD dy (eIs keys):=by rw[e4];exact hdy
 have hdw:SlD dr (eRs rows):=by rw[e2];exact hdw
 clear e1 e2 e3 e4 e5 e6 hav hB hb hdi
 have r1:=eIs_len rs
 have rm:=eIs_mem rs
 have rg:=λi k=>@eIs_get rs i k
 obtain⟨rr,hrr⟩:∃z,z=eIs rs:=⟨_,rfl⟩
 rw[<- hrr] at hdr r1 rm rg
 obtain⟨ww,hww⟩:∃z,z=eRs rows:=⟨_,rfl⟩
 rw[<- hww] at hdw wl
 obtain⟨kk,hkk⟩:∃z,z=eIs keys:=⟨_,rfl⟩
 rw[<- hkk] at hdy kl
 have wm:∀e∈ww,e.length=1:=by rw[hww];exact eRs_mem rows
 have km:∀e∈kk,e.length=1:=by rw[hkk];exact eIs_mem keys
 clear hrr hww hkk
 have hT:=C.optimize_product a b a1 b1
 have hT2:=C.optimize_product a (max b 1) a1 (by omega)
 unfold mostN at a2 b2
 unfold szF at hq
 dsimp only at hq
 have hcase:(op=1/\0<=n/\n<rr.length/\∃k:Int,rr[n.toNat]?=some [eI k]/\q=max 0 (min k 1099511627776))\/(op=1/\n<0/\q=0)\/(op=1/\0<=n/\(rr.length:Int)<=n/\q=0)\/(op=2/\q=min (ww.length:Int) 1099511627776)\/(op=3/\q=a)\/(op=4/\q=a)\/(op=10/\q=a)\/(op=8/\q=a)\/(op=5/\q=tmN a b)\/(op=6/\q=tmN a (max b 1))\/(op=7/\q=min (a+b) 1099511627776)\/(op=9/\q=min a b)\/(op=11/\(kk.length:Int)=0/\q=1)\/(op=11/\¬(kk.length:Int)=0/\q=a)\/
   ((op≠1/\op≠2/\op≠3/\op≠4/\op≠5/\op≠6/\op≠7/\op≠8/\op≠9/\op≠10/\op≠11)/\q=0):=by
  by_cases o1:op=1
  ·subst o1
   rw[if_pos rfl] at hq
   by_cases h1:0<=n/\n<rs.length
   ·rw[if_pos h1] at hq
    obtain⟨k,hk⟩:∃k,rs[n.toNat]?=some k:=⟨_,List.getElem?_eq_getElem (by omega)⟩
    rw[List.getD_eq_getElem?_getD,hk] at hq
    have hq:q=min (max k 0) 1099511627776:=hq
    exact .inl ⟨rfl,h1.1,by omega,k,rg _ _ hk,by omega⟩
   ·rw[if_neg h1] at hq
    by_cases h2:n<0
    ·exact .inr (.inl ⟨rfl,h2,hq⟩)
    ·exact .inr (.inr (.inl ⟨rfl,by omega,by omega,hq⟩))
  by_cases o2:op=2
  ·subst o2
   have hq:q=(rows.length:Int):=by simpa using hq
   exact .inr (.inr (.inr (.inl ⟨rfl,by omega⟩)))
  by_cases o3:op=3
  ·subst o3;simp at hq;simp[hq]
  by_cases o4:op=4
  ·subst o4;simp at hq;simp[hq]
  by_cases o10:op=10
  ·subst o10;simp at hq;simp[hq]
  by_cases o8:op=8
  ·subst o8;simp at hq;simp[hq]
  by_cases o5:op=5
  ·subst o5;simp at hq;simp[hq]
  by_cases o6:op=6
  ·subst o6;simp at hq;simp[hq]
  by_cases o7:op=7
  ·subst o7;simp at hq;simp[hq]
  by_cases o9:op=9
  ·subst o9;simp at hq;simp[hq]
  by_cases o11:op=11
  ·subst o11
   simp at hq
   by_cases h0:keys=[]
   ·rw[if_pos h0] at hq
    have hk0:(kk.length:Int)=0:=by rw[kl,h0];rfl
    simp[hq,hk0]
   ·rw[if_neg h0] at hq
    have hk0:¬(kk.length:Int)=0:=by
     have:keys.length≠0:=λh=>h0 (List.length_eq_zero_iff.1 h)
     omega
    have hk1:¬kk=[]:=λh=>hk0 (by rw[h];rfl)
    simp[hq,hk1]
  ·simp[o1,o2,o3,o4,o5,o6,o7,o8,o9,o10,o11] at hq
   simp[o1,o2,o3,o4,o5,o6,o7,o8,o9,o10,o11,hq]
 clear hq rg
 rcases hcase with ⟨rfl,z1,z2,k,z3,rfl⟩|⟨rfl,z1,rfl⟩|⟨rfl,z1,z2,rfl⟩|⟨rfl,rfl⟩|⟨rfl,rfl⟩|⟨rfl,rfl⟩|⟨rfl,rfl⟩|⟨rfl,rfl⟩|⟨rfl,rfl⟩|⟨rfl,rfl⟩|⟨rfl,rfl⟩|⟨rfl,rfl⟩|⟨rfl,z1,rfl⟩|⟨rfl,z1,rfl⟩|⟨⟨o1,o2,o3,o4,o5,o6,o7,o8,o9,o10,o11⟩,rfl⟩
 all_goals refine F.optimize_Size.go mixed rfl ?_
 all_goals repeat' first|refine st ?_|((with_reducible apply go_i);conv=>whnf)|((with_reducible first|apply k_nc|apply k_cs);(·first|exact hC0|exact hC1);(try rintro _ _ ⟨rfl,rfl⟩))|((with_reducible apply k_pr);(·first|exact hC0|exact hC1))|refine⟨λ_=>?_,λ_=>?_⟩|fail
 all_goals rfl
end Go.Proofs
end
section
namespace Go.Proofs
open Go.Bi
theorem C.Filters2(q:Pl)(hq:q.bk<=1048576)(input s0 s1:Int)(hs:scP q=[s0,s1])(hc:(s0=input/\s1≠input)\/(s0≠input/\s1=input))(x:Ex)(hxb:x.bk<=1048576)(b1 b2:Bool)(hf:Pure Tryz.prog N.optimize_filters [q.av,.d (eI input)] (.tup [.d (.sl [x.ds]),.d (.bool b1),.d (.bool b2)])) :
  Pure Tryz.prog N.optimize_Filters [q.av,.d (eI input)] (.d (.sl [(shf 0 x).ds])):=by
 have hS:=C.optimize_Scans q hq
 rw[hs,show ng true (eIs [s0,s1])=.sl [[eI s0],[eI s1]] from rfl] at hS
 have hC:=C.optimize_copied [x] (by simp) (λy hy=>by rw[List.mem_singleton.1 hy];exact hxb) (.sl [x.ds]) (.inr rfl)
 rw[show ng true (xL ([x].map (shf 0)))=.sl [(shf 0 x).ds] from rfl] at hC
 clear hs hxb
 obtain⟨d1,hd1⟩:∃d,d=D.sl [x.ds]:=⟨_,rfl⟩
 obtain⟨d2,hd2⟩:∃d,d=D.sl [(shf 0 x).ds]:=⟨_,rfl⟩
 rw[<- hd1] at hf hC
 rw[<- hd2] at hC ⊢
 clear hd1 hd2
 obtain⟨ao,an,ak,ar,axo,axn,axv,axm,axd,adx,ady,ada,adi,a1,a2⟩:=Pl.cut q
 rw[a2] at hS hf ⊢
 clear a1 a2
 rcases hc with ⟨rfl,h⟩|⟨h,rfl⟩
 ·refine F.optimize_Filters.go mixed rfl ?_
  repeat' first|refine st ?_|((with_reducible apply go_i);conv=>whnf)|refine⟨λ_=>?_,λ_=>?_⟩|fail
  refine x_rounds 3 (x_round mixed ?_)
  repeat' first|refine st ?_|((with_reducible apply go_i);conv=>whnf)|refine⟨λ_=>?_,λ_=>?_⟩|fail
  refine x_round mixed ?_
  repeat' first|refine st ?_|((with_reducible apply go_i);conv=>whnf)|refine⟨λ_=>?_,λ_=>?_⟩|fail
  refine x_round mixed ?_
  repeat' first|refine st ?_|((with_reducible apply go_i);conv=>whnf)|refine⟨λ_=>?_,λ_=>?_⟩|fail
  all_goals rfl
 ·refine F.optimize_Filters.go mixed rfl ?_
  repeat' first|refine st ?_|((with_reducible apply go_i);conv=>whnf)|refine⟨λ_=>?_,λ_=>?_⟩|fail
  refine x_rounds 3 (x_round mixed ?_)
  repeat' first|refine st ?_|((with_reducible apply go_i);conv=>whnf)|refine⟨λ_=>?_,λ_=>?_⟩|fail
  refine x_round mixed ?_
  repeat' first|refine st ?_|((with_reducible apply go_i);conv=>whnf)|refine⟨λ_=>?_,λ_=>?_⟩|fail
  refine x_round mixed ?_
  repeat' first|refine st ?_|((with_reducible apply go_i);conv=>whnf)|refine⟨λ_=>?_,λ_=>?_⟩|fail
  all_goals rfl
abbrev yesX:Ex:=cstX ⟨3,1,[]⟩
abbrev zX:Ex:=.mk 0 0 vNull [] true []
abbrev scn(i:Int):Pl:=pl0 1 i zX []
abbrev joinP:Pl:=pl0 5 0 yesX [scn 0,scn 1]
abbrev andX:Ex:=.mk 5 0 vNull [] true [eqX 0 1,eqX 2 2]
abbrev pA:Pl:=pl0 3 0 andX [joinP]
abbrev fl0:Pl:=pl0 3 0 (eqX 0 1) [scn 0]
abbrev fl1:Pl:=pl0 3 0 (eqX 0 2) [scn 1]
abbrev qA:Pl:=pl0 5 0 yesX [fl0,fl1]
abbrev leftP:Pl:=pl0 6 0 yesX [scn 0,scn 1]
abbrev K2:List Kw:=[⟨false,[1,1]⟩,⟨false,[1,1]⟩]
theorem eqX_ds(i n:Int):(eqX i n).ds=[eI 7,eI 0,eI 0,eI 0,.str [],.str [],.sl [[eI 2,eI i,eI 0,eI 0,.str [],.str [],.nil],[eI 1,eI 0,eI 1,eI n,.str [],.str [],.nil]]]:=by
 rw[Ex.ds_mk];rfl
theorem eqX_av(i n:Int):(eqX i n).av=eX 7 0 vNull [] (.sl [[eI 2,eI i,eI 0,eI 0,.str [],.str [],.nil],[eI 1,eI 0,eI 1,eI n,.str [],.str [],.nil]]):=by
 rw[Ex.av_mk];rfl
theorem scn_ds(i:Int):(scn i).ds=ePld 1 i .nil .nil 0 0 vNull [] .nil .nil .nil .nil .nil:=by
 rw[pl0_ds];rfl
theorem join_ds:joinP.ds=ePld 5 0 .nil .nil 1 0 ⟨3,1,[]⟩ [] .nil .nil .nil .nil (.sl [(scn 0).ds,(scn 1).ds]):=by
 rw[pl0_ds];rfl
theorem pA_av:pA.av=ePl 3 0 .nil .nil 5 0 vNull [] (.sl [(eqX 0 1).ds,(eqX 2 2).ds]) .nil .nil .nil (.sl [joinP.ds]):=by
 rw[pl0_av];rfl
theorem left_av:leftP.av=ePl 6 0 .nil .nil 1 0 ⟨3,1,[]⟩ [] .nil .nil .nil .nil (.sl [(scn 0).ds,(scn 1).ds]):=by
 rw[pl0_av];rfl
theorem qA_av:qA.av=ePl 5 0 .nil .nil 1 0 ⟨3,1,[]⟩ [] .nil .nil .nil .nil (.sl [fl0.ds,fl1.ds]):=by
 rw[pl0_av];rfl
theorem shf_eqX(k i n:Int):shf k (eqX i n)=eqX (w64 (i+k)) n:=rfl
theorem eqX_bk(i n:Int):(eqX i n).bk<=100:=by
 rw[Ex.bk,eqX_ds];simp[bulkL,bulkD,bulkLL]
theorem cols_eqX(i n:Int):cols (eqX i n)=[i]:=by
 have:rawC (eqX i n)=[i]:=rfl
 unfold cols
 rw[this]
 simp[srt,Lib.compact]
 rfl
theorem cls_eqX(m i n:Int):cls m (eqX i n)=if i<m then 0 else 1:=by
 unfold cls
 rw[cols_eqX]
 show(if i<m then 0 else if m<=i then 1 else 2)=_
 by_cases h:i<m
 ·rw[if_pos h,if_pos h]
 ·rw[if_neg h,if_neg h,if_pos (by omega)]
theorem w0:w64 (0+0)=0:=by decide
theorem w2:w64 (2+0)=2:=by decide
theorem wm:w64 (2+(0-((2:Nat):Int)))=0:=by decide
theorem push_l:(cj (shf 0 andX)).map (shf 0)=[eqX 0 1,eqX 2 2]:=by
 have h1:shf 0 andX=.mk 5 0 vNull [] true [eqX 0 1,eqX 2 2]:=by
  show Ex.mk 5 0 vNull [] true [shf 0 (eqX 0 1),shf 0 (eqX 2 2)]=_
  rw[shf_eqX,shf_eqX,w0,w2]
 have h2:cj (.mk 5 0 vNull [] true [eqX 0 1,eqX 2 2])=[eqX 0 1,eqX 2 2]:=rfl
 rw[h1,h2,List.map_cons,List.map_cons,List.map_nil,shf_eqX,shf_eqX,w0,w2]
theorem cjl_l:cjl [eqX 0 1,eqX 2 2]=[eqX 0 1,eqX 2 2]:=by
 unfold cjl
 rw[List.map_cons,List.map_cons,List.map_nil,shf_eqX,shf_eqX,w0,w2]
 have h2:cj (allX false [eqX 0 1,eqX 2 2])=[eqX 0 1,eqX 2 2]:=rfl
 rw[h2,List.map_cons,List.map_cons,List.map_nil,shf_eqX,shf_eqX,w0,w2]
theorem sel0:sel ((2:Nat):Int) 0 [eqX 0 1,eqX 2 2]=[eqX 0 1]:=by
 unfold sel
 simp[cls_eqX]
theorem sel1:sel ((2:Nat):Int) 1 [eqX 0 1,eqX 2 2]=[eqX 2 2]:=by
 unfold sel
 simp[cls_eqX]
theorem sel2:sel ((2:Nat):Int) 2 [eqX 0 1,eqX 2 2]=[]:=by
 unfold sel
 simp[cls_eqX]
theorem fl_1(p:Pl)(n:Int):flP p [eqX 0 n]=pl0 3 0 (eqX 0 n) [p]:=by
 show pl0 3 0 (allX false [shf 0 (eqX 0 n)]) [p]=_
 rw[shf_eqX,w0];rfl
theorem pA_bk:pA.bk<=1000:=by decide
theorem qA_bk:qA.bk<=1000:=by decide
theorem join_bk:joinP.bk<=1000:=by decide
theorem scn_bk0:(scn 0).bk<=1000:=by decide
theorem scn_bk1:(scn 1).bk<=1000:=by decide
theorem left_bk:leftP.bk<=1000:=by decide
theorem yes_bk:yesX.bk<=1000:=by decide
theorem z_bk:zX.bk<=1000:=by decide
theorem and_bk:andX.bk<=1000:=by decide
theorem and_bk2:(shf 0 andX).bk<=1000:=by decide
theorem all_bk:(allX false ([eqX 0 1,eqX 2 2].map (shf 0))).bk<=1000:=by decide
theorem kA:(cpF K2 pA).2=0/\(cpF K2 pA).1.ks=[1,1,1,1]:=by decide
theorem kQ:(cpF K2 qA).2=0/\(cpF K2 qA).1.ks=[1,1,1,1]:=by decide
theorem kS:(cpF K2 (scn 0)).1.ks=[1,1]:=by decide
theorem scA:scP pA=[0,1]:=by decide
theorem scQ:scP qA=[0,1]:=by decide
theorem szL:szP [3,0] leftP=3:=by decide
theorem eqs_bk(l:List Ex)(h:∀x∈l,∃i n,x=eqX i n):∀x∈l,x.bk<=1048576:=λx hx=>by
 obtain⟨i,n,rfl⟩:=h x hx
 have:=eqX_bk i n
 omega
theorem K2b:∀k∈K2,k.ks.length<=4194304:=by
 intro k hk
 simp only[List.mem_cons,List.not_mem_nil,or_false] at hk
 rcases hk with rfl|rfl<;>decide
theorem place_q(din:D)(hin:SlD din (eKw K2)):CallSpec Tryz.prog N.poptimize_rewriter_place [.ptr 0 0,tyA joinP (cpF K2 joinP).1.d,.d (nsl (xL ((cj (shf 0 andX)).map (shf 0))))] (rcv din) (λr os=>r=qA.av/\os=rcv din):=by
 rw[push_l]
 have hb1:∀x∈[eqX 0 1],x.bk<=1048576:=eqs_bk _ λx hx=>⟨0,1,List.mem_singleton.1 hx⟩
 have hb2:∀x∈[eqX 0 2],x.bk<=1048576:=eqs_bk _ λx hx=>⟨0,2,List.mem_singleton.1 hx⟩
 have hb3:∀x∈[eqX 0 1,eqX 2 2],x.bk<=1048576:=eqs_bk _ λx hx=>by
  simp only[List.mem_cons,List.not_mem_nil,or_false] at hx
  rcases hx with rfl|rfl
  ·exact⟨0,1,rfl⟩
  ·exact⟨2,2,rfl⟩
 have hA:=C.place_leaf din (po0 1 0 zX) true [] ⟨by decide,by decide,by decide⟩ (cpF K2 (scn 0)).1.d [eqX 0 1] hb1 (by decide) (nsl (xL [eqX 0 1])) (by rw[nsl_ng];exact sld_ng)
 have hB:=C.place_leaf din (po0 1 1 zX) true [] ⟨by decide,by decide,by decide⟩ (cpF K2 (scn 1)).1.d [eqX 0 2] hb2 (by decide) (ng true (xL [eqX 0 2])) sld_ng
 rw[fl_1] at hA hB
 have hsh:[eqX 2 2].map (shf (0-((2:Nat):Int)))=[eqX 0 2]:=by
  rw[List.map_cons,List.map_nil,shf_eqX,wm]
 have h:=C.place_join K2 (by decide) K2b din hin 0 yesX (scn 0) (scn 1) (Nat.le_trans scn_bk0 (by decide)) (Nat.le_trans scn_bk1 (by decide)) (cpF K2 joinP).1.d [eqX 0 1,eqX 2 2] hb3 (by decide) (nsl (xL [eqX 0 1,eqX 2 2])) (by rw[nsl_ng];exact sld_ng)
  (Nat.le_trans all_bk (by decide)) 2 (by rw[kS];rfl) (by decide) (by rw[cjl_l];exact hb3) (by rw[cjl_l];decide) fl0 fl1 (by rw[cjl_l,sel0];exact hA) (by rw[cjl_l,sel1,hsh];exact hB)
 rw[cjl_l,sel2] at h
 exact h
theorem push_s(din:D)(i:Int):CallSpec Tryz.prog N.poptimize_rewriter_push [.ptr 0 0,(scn i).av] (rcv din) (λr os=>r=(scn i).av/\os=rcv din):=
 C.push_o din (λx=>x) 1 i zX [] (by decide) (Nat.le_trans z_bk (by decide)) (by decide) λx hx=>by cases hx
theorem push_j(din:D):CallSpec Tryz.prog N.poptimize_rewriter_push [.ptr 0 0,joinP.av] (rcv din) (λr os=>r=joinP.av/\os=rcv din):=
 C.push_o din (λx=>x) 5 0 yesX [scn 0,scn 1] (by decide) (Nat.le_trans yes_bk (by decide)) (by decide) λx hx=>by
  simp only[List.mem_cons,List.not_mem_nil,or_false] at hx
  rcases hx with rfl|rfl<;>exact push_s din _
theorem push_A(din:D)(hin:SlD din (eKw K2)):CallSpec Tryz.prog N.poptimize_rewriter_push [.ptr 0 0,pA.av] (rcv din) (λr os=>r=qA.av/\os=rcv din):=
 C.push_f K2 (by decide) K2b din hin 0 andX joinP joinP qA (Nat.le_trans and_bk (by decide)) (Nat.le_trans and_bk2 (by decide)) (Nat.le_trans join_bk (by decide)) (push_j din) (place_q din hin)
theorem C.Push_A:Pure Tryz.prog N.optimize_Push [pA.av,.d (.sl (eKw K2))] qA.av:=
 C.optimize_Push K2 (by decide) K2b (.sl (eKw K2)) (.inr rfl) pA qA (Nat.le_trans pA_bk (by decide)) (Nat.le_trans qA_bk (by decide)) (push_A _ (.inr rfl)) kA.1 kQ.1 (kA.2.trans kQ.2.symm) (by rw[kA.2];decide)
theorem C.Filters_q0:Pure Tryz.prog N.optimize_Filters [qA.av,.d (eI 0)] (.d (.sl [(eqX 0 1).ds])):=by
 have h0:=C.filters_filter 0 0 (eqX 0 1) (scn 0) true (C.filters_scan 0 0 zX)
 have h1:=C.filters_join 0 0 yesX fl0 fl1 true (.sl [(eqX 0 1).ds]) .nil h0 (by intro h;cases h)
 have h2:=C.Filters2 qA (Nat.le_trans qA_bk (by decide)) 0 0 1 scQ (.inl ⟨rfl,by decide⟩) (eqX 0 1) (Nat.le_trans (eqX_bk 0 1) (by decide)) true false h1
 rw[shf_eqX,w0] at h2
 exact h2
theorem C.Filters_q1:Pure Tryz.prog N.optimize_Filters [qA.av,.d (eI 1)] (.d (.sl [(eqX 0 2).ds])):=by
 have h0:=C.filters_filter 0 1 (eqX 0 1) (scn 0) false (C.filters_scan 0 1 zX)
 have h0':=C.filters_filter 0 1 (eqX 0 2) (scn 1) true (C.filters_scan 1 1 zX)
 have h1:=C.filters_join 0 1 yesX fl0 fl1 false .nil (.sl [(eqX 0 2).ds]) h0 (λ_=>h0')
 have h2:=C.Filters2 qA (Nat.le_trans qA_bk (by decide)) 1 0 1 scQ (.inr ⟨by decide,rfl⟩) (eqX 0 2) (Nat.le_trans (eqX_bk 0 2) (by decide)) true false h1
 rw[shf_eqX,w0] at h2
 exact h2
theorem C.law48_awake:Pure Tryz.prog N.bt_law48_awake [] (.d (.bool true)):=by
 have hE1:=C.law48_equals 0 1
 have hE2:=C.law48_equals 2 2
 have hE3:=C.law48_equals 0 2
 have hP:=C.Push_A
 have hF0:=C.Filters_q0
 have hF1:=C.Filters_q1
 have hC0:=C.law48_contains1 (eqX 0 1) (eqX 0 1) (Nat.le_trans (eqX_bk 0 1) (by decide)) (Nat.le_trans (eqX_bk 0 1) (by decide)) (by decide)
 have hC1:=C.law48_contains1 (eqX 0 2) (eqX 0 2) (Nat.le_trans (eqX_bk 0 2) (by decide)) (Nat.le_trans (eqX_bk 0 2) (by decide)) (by decide)
 have hZ:=C.optimize_Size [3,0] (by decide) (.sl (eIs [3,0])) (.inr rfl) leftP (Nat.le_trans left_bk (by decide))
 have hS:=C.optimize_Scans pA (Nat.le_trans pA_bk (by decide))
 rw[szL] at hZ
 rw[scA,show ng true (eIs [0,1])=.sl [[eI 0],[eI 1]] from rfl] at hS
 rw[qA_av] at hP hF0 hF1
 obtain⟨dq,hdq⟩:∃d,d=D.sl [fl0.ds,fl1.ds]:=⟨_,rfl⟩
 rw[<- hdq] at hP hF0 hF1
 rw[pA_av] at hP hS
 rw[left_av] at hZ
 rw[join_ds] at hP hS
 rw[scn_ds,scn_ds] at hP hS hZ
 rw[eqX_av] at hE1 hE2 hE3 hC0 hC1
 rw[eqX_ds,eqX_ds] at hP hS
 obtain⟨d0,hd0⟩:∃d,d=D.sl [(eqX 0 1).ds]:=⟨_,rfl⟩
 obtain⟨d1,hd1⟩:∃d,d=D.sl [(eqX 0 2).ds]:=⟨_,rfl⟩
 rw[<- hd0] at hF0 hC0
 rw[<- hd1] at hF1 hC1
 have hP:Bi.Pure Tryz.prog N.optimize_Push [_,.d (.sl [[.sl [[eI 1],[eI 1]]],[.sl [[eI 1],[eI 1]]]])] _:=hP
 have hZ:Bi.Pure Tryz.prog N.optimize_Size [_,.d (.sl [[eI 3],[eI 0]])] _:=hZ
 clear hdq hd0 hd1
 refine F.bt_law48_awake.go mixed rfl ?_
 repeat' first|(with_reducible apply k_lk2)|refine st ?_|((with_reducible apply go_i);conv=>whnf)|refine⟨λ_=>?_,λ_=>?_⟩|fail
 all_goals rfl
end Go.Proofs
end
section
namespace Go.Proofs
open Go.Bi
theorem cpF_ok{K:List Kw}{p:Pl}(h:(cpF K p).2=0):dpP p<=24/\(ndF K p).2=0/\cpF K p=ndF K p:=by
 unfold cpF at h ⊢
 by_cases hd:24<dpP p
 ·rw[if_pos hd] at h;cases h
 ·rw[if_neg hd] at h ⊢;exact⟨by omega,h,rfl⟩
theorem cpF_in{K:List Kw}{p:Pl}(hd:dpP p<=24):cpF K p=ndF K p:=if_neg (by omega)
theorem C.law48_equivalent{I:List Bg}(hI:I.length<=1048576)(hb:∀b∈I,b.ki.length<=1048576/\b.rows.length<=1048576/\∀r∈b.rows,r.vs.length<=1048576/\∀v∈r.vs,v.s.length<=1048576)(hG:InG I)(din:D)(hin:SlD din (eBs I))(p q:Pl)(hp:p.bk<=1048576)(h0:(cpF (ksI I) p).2=0)(hl:lgP (rsI I) p<=2000)(h:PlE I p q) :
  Pure Tryz.prog N.bt_law48_equivalent [p.av,q.av,.d din] (.d (.bool true)):=by
 obtain⟨p1,p2,p3⟩:=cpF_ok h0
 have hqb:q.bk<=1048576:=Nat.le_trans h.bk hp
 have q3:cpF (ksI I) q=ndF (ksI I) q:=cpF_in (Nat.le_trans h.dp p1)
 have hq0:(cpF (ksI I) q).2=0:=by rw[q3];exact h.e
 have hlq:lgP (rsI I) q<=2000:=Int.le_trans h.lg hl
 have hg:=evB_good hG p hp p2 hl
 have hsz:szP (rsI I) p<=2000:=by
  obtain⟨o,ni,ins⟩:=p
  exact(lgP_le hl).1
 have hKb:∀k∈ksI I,k.ks.length<=4194304:=λk hk=>by
  obtain⟨b,hb1,rfl⟩:=List.mem_map.1 hk
  have:=(hb b hb1).1
  show b.ki.length<=4194304
  omega
 have hKl:(ksI I).length<=4194304:=by rw[List.length_map];omega
 have hKs:=C.law48_kinds I (by omega) din hin
 have hC1:=C.r21_Check (ksI I) hKl hKb (.sl (eKw (ksI I))) (.inr rfl) p hp
 have hC2:=C.r21_Check (ksI I) hKl hKb (.sl (eKw (ksI I))) (.inr rfl) q hqb
 have hks:(cpF (ksI I) q).1.ks=(cpF (ksI I) p).1.ks:=by rw[q3,p3];exact h.ks
 have hn1:=ndF_len (ksI I) p
 have hIn:=C.r13_Ints_same (cpF (ksI I) p).1.ks (by rw[p3];omega) (cpF (ksI I) p).1.d (cpF (ksI I) q).1.d sld_ng (by rw[<- hks];exact sld_ng)
 have hS1:=C.r48_Scans p hp
 have hS2:=C.r48_Scans q hqb
 rw[h.sc] at hS2
 have hSc:=C.r13_Ints_same (scP p) (Nat.le_trans (scP_bk p) hp) (.sl (eIs (scP p))) (.sl (eIs (scP p))) (.inr rfl) (.inr rfl)
 have hR1:=C.r21_Run (by omega) (λb h=>by have:=(hb b h).1;omega) hG din hin p hp h0 hl
 have hR2:=C.r21_Run (by omega) (λb h=>by have:=(hb b h).1;omega) hG din hin q hqb hq0 hlq
 have hSa:=C.r08_Same_same (evB I p).rows (by have:=hg.len;omega) (λr hr=>by have:=(hg.row r hr).1;have:=ndF_len (ksI I) p;omega) (evB I p).rd (evB I q).rd sld_ng (by rw[<- h.rows];exact sld_ng)
 rw[h0] at hC1
 rw[hq0] at hC2
 have hR1:Bi.Pure Tryz.prog N.bt_ref21_Run [p.av,.d din] (.tup [.agg [.d (evB I p).kd,.d (evB I p).rd],.d (eI 0)]):=hR1
 have hR2:Bi.Pure Tryz.prog N.bt_ref21_Run [q.av,.d din] (.tup [.agg [.d (evB I q).kd,.d (evB I q).rd],.d (eI 0)]):=hR2
 obtain⟨z1,e⟩:∃d,d=(cpF (ksI I) p).1.d:=⟨_,rfl⟩
 rw[<- e] at hC1 hIn;clear e
 obtain⟨z2,e⟩:∃d,d=(cpF (ksI I) q).1.d:=⟨_,rfl⟩
 rw[<- e] at hC2 hIn;clear e
 obtain⟨z3,e⟩:∃d,d=(evB I p).kd:=⟨_,rfl⟩
 rw[<- e] at hR1;clear e
 obtain⟨z4,e⟩:∃d,d=(evB I p).rd:=⟨_,rfl⟩
 rw[<- e] at hR1 hSa;clear e
 obtain⟨z5,e⟩:∃d,d=(evB I q).kd:=⟨_,rfl⟩
 rw[<- e] at hR2;clear e
 obtain⟨z6,e⟩:∃d,d=(evB I q).rd:=⟨_,rfl⟩
 rw[<- e] at hR2 hSa;clear e
 obtain⟨z7,e⟩:∃d,d=eIs (scP p):=⟨_,rfl⟩
 rw[<- e] at hS1 hS2 hSc;clear e
 obtain⟨z8,e⟩:∃d,d=eKw (ksI I):=⟨_,rfl⟩
 rw[<- e] at hKs hC1 hC2;clear e
 clear hks hn1 hKb hKl hsz hg hlq hq0 q3 hqb p1 p2 p3 h hl h0 hG hb
 obtain⟨op,n,dk,dr,xo,xn,xv,xm,xd,dx,dy,da,di,c1,c2⟩:=Pl.cut p
 obtain⟨op',n',dk',dr',xo',xn',xv',xm',xd',dx',dy',da',di',c3,c4⟩:=Pl.cut q
 rw[c2] at hC1 hS1 hR1 ⊢
 rw[c4] at hC2 hS2 hR2 ⊢
 clear c1 c2 c3 c4
 have r1:xv.s=xv.s:=rfl
 have r2:xm=xm:=rfl
 have r3:xv'.s=xv'.s:=rfl
 have r4:xm'=xm':=rfl
 refine F.bt_law48_equivalent.go mixed rfl ?_
 repeat' first|refine st ?_|((with_reducible apply go_i);conv=>whnf)|refine⟨λ_=>?_,λ_=>?_⟩|fail
 all_goals rfl
theorem L.OptimizeFolds(p:Pl)(hp:p.bk<=1048576)(I:List Bg)(hI:I.length<=1048576)(hb:∀b∈I,b.ki.length<=1048576/\b.rows.length<=1048576/\∀r∈b.rows,r.vs.length<=1048576/\∀v∈r.vs,v.s.length<=1048576)(din:D)(hin:SlD din (eBs I)) :
  Pure Tryz.prog N.bt_law48_OptimizeFolds [p.av,.d din] (.d (.bool true)):=by
 have hW:=C.law48_awake
 have hR:=C.law48_runnable I hI hb din hin p hp
 cases hr:rnB I p with
 |false=>
  rw[hr] at hR
  obtain⟨op',n',dk',dr',xo',xn',xv',xm',xd',dx',dy',da',di',c1,c2⟩:=Pl.cut p
  rw[c2] at hR ⊢
  clear c1 c2 hr
  refine F.bt_law48_OptimizeFolds.go mixed rfl ?_
  repeat' first|refine st ?_|((with_reducible apply go_i);conv=>whnf)|refine⟨λ_=>?_,λ_=>?_⟩|fail
  all_goals rfl
 |true=>
  rw[hr] at hR
  unfold rnB at hr
  rw[Bool.and_eq_true,Bool.and_eq_true] at hr
  obtain⟨⟨h1,h2⟩,h3⟩:=hr
  have h1:=of_decide_eq_true h1
  have h3:=of_decide_eq_true h3
  have hG:=vlB_in h2
  obtain⟨hE,hfl⟩:=fd_good hG p hp (cpF_ok h1).2.1 h3
  have hF:=C.optimize_Fold p hp
  have hQ:=C.law48_equivalent hI hb hG din hin p (fdP p) hp h1 h3 hE
  have hqb:(fdP p).bk<=1048576:=Nat.le_trans hE.bk hp
  have hD1:=C.r20_Depth p hp
  have hD2:=C.r20_Depth (fdP p) hqb
  have hL:=C.r48_Folded (fdP p) hqb hfl
  have hle:((dpP (fdP p):Nat):Int)<=(dpP p:Nat):=Int.ofNat_le.2 hE.dp
  obtain⟨q,hq⟩:∃q,q=fdP p:=⟨_,rfl⟩
  rw[<- hq] at hF hQ hD2 hL hle
  obtain⟨m1,hm1⟩:∃m:Int,m=(dpP p:Nat):=⟨_,rfl⟩
  obtain⟨m2,hm2⟩:∃m:Int,m=(dpP q:Nat):=⟨_,rfl⟩
  rw[<- hm1] at hD1 hle
  rw[<- hm2] at hD2 hle
  clear hq hm1 hm2 h1 h2 h3 hG hE hfl hqb hb
  obtain⟨op,n,dk,dr,xo,xn,xv,xm,xd,dx,dy,da,di,c1,c2⟩:=Pl.cut p
  obtain⟨op',n',dk',dr',xo',xn',xv',xm',xd',dx',dy',da',di',c3,c4⟩:=Pl.cut q
  rw[c2] at hR hF hQ hD1 ⊢
  rw[c4] at hF hQ hD2 hL
  clear c1 c2 c3 c4
  have r1:xv.s=xv.s:=rfl
  have r2:xm=xm:=rfl
  have r3:xv'.s=xv'.s:=rfl
  have r4:xm'=xm':=rfl
  refine F.bt_law48_OptimizeFolds.go mixed rfl ?_
  repeat' first|refine st ?_|((with_reducible apply go_i);conv=>whnf)|refine⟨λ_=>?_,λ_=>?_⟩|fail
  all_goals first|rfl|simp[hle]|(exfalso;omega)
end Go.Proofs
end
section
namespace Go.Proofs
open Go.Bi
abbrev T.rws:TypeId:=23
abbrev T.ag:TypeId:=99
abbrev T.ags:TypeId:=29
abbrev T.pl:TypeId:=32
abbrev T.pls:TypeId:=30
abbrev T.bg:TypeId:=43
abbrev T.bgs:TypeId:=33
theorem cells_rws:Tryz.prog.cellsOf T.rws=1:=by kernel_rfl
theorem cells_ag:Tryz.prog.cellsOf T.ag=2:=by kernel_rfl
theorem cells_ags:Tryz.prog.cellsOf T.ags=1:=by kernel_rfl
theorem cells_pl:Tryz.prog.cellsOf T.pl=15:=by kernel_rfl
theorem cells_pls:Tryz.prog.cellsOf T.pls=1:=by kernel_rfl
theorem cells_bg:Tryz.prog.cellsOf T.bg=2:=by kernel_rfl
theorem cells_intsY:Tryz.prog.cellsOf T.ints=1:=by kernel_rfl
theorem sld_nl{d:D}{es:List (List D)}(h:SlD d es):∃nl,d=ng nl es:=by
 rcases h with ⟨rfl,rfl⟩|rfl
 ·exact⟨true,rfl⟩
 ·exact⟨false,rfl⟩
theorem wt_intsN{ds:List D}(h:WT Tryz.prog T.ints ds):∃nl ks,ds=[ng nl (eIs ks)]:=by
 obtain⟨d,ks,h1,h2⟩:=wt_ints h
 obtain⟨nl,h3⟩:=sld_nl h2
 exact⟨nl,ks,by rw[h1,h3]⟩
theorem wt_rws{ds:List D}(h:WT Tryz.prog T.rws ds):∃nl l,ds=[ng nl (eRs l)]:=by
 obtain⟨d,es,h1,h2,h4,h3⟩:=h.sl' Tryz.underlying23
 have:∃c,es=eRs c:=by
  clear h1 h2 h4
  induction es with
  |nil=>exact⟨[],rfl⟩
  |cons x es ih=>
   obtain⟨d,row,hn,hs⟩:=wt_vals (h3 x (by simp))
   obtain⟨nl,hd⟩:=sld_nl hs
   obtain⟨ks,hk⟩:=ih λy hy=>h3 y (by simp[hy])
   exact⟨⟨nl,row⟩::ks,by rw[hn,hk,hd];rfl⟩
 obtain⟨c,rfl⟩:=this
 obtain⟨nl,h5⟩:=sld_nl h2
 exact⟨nl,c,by rw[h1,h5]⟩
theorem wt_ag{ds:List D}(h:WT Tryz.prog T.ag ds):∃a:Ag,ds=a.ds:=by
 obtain⟨hl,hf⟩:=h.st' Tryz.underlying99
 rw[cells_ag] at hl
 match ds,hl with
 |[d0,d1],_=>
  have h0:=hf _ (List.mem_cons_self ..)
  have h1:=hf _ (List.mem_cons_of_mem _ (List.mem_cons_self ..))
  dsimp only at h0 h1
  rw[cells_int] at h0 h1
  obtain⟨a,h0⟩:=wt_int h0
  obtain⟨b,h1⟩:=wt_int h1
  simp at h0 h1
  exact⟨⟨a,b⟩,by rw[h0,h1]⟩
theorem wt_ags{ds:List D}(h:WT Tryz.prog T.ags ds):∃nl l,ds=[ng nl (eAs l)]:=by
 obtain⟨d,es,h1,h2,h4,h3⟩:=h.sl' Tryz.underlying29
 have:∃c,es=eAs c:=by
  clear h1 h2 h4
  induction es with
  |nil=>exact⟨[],rfl⟩
  |cons x es ih=>
   obtain⟨a,hn⟩:=wt_ag (h3 x (by simp))
   obtain⟨ks,hk⟩:=ih λy hy=>h3 y (by simp[hy])
   exact⟨a::ks,by rw[hn,hk];rfl⟩
 obtain⟨c,rfl⟩:=this
 obtain⟨nl,h5⟩:=sld_nl h2
 exact⟨nl,c,by rw[h1,h5]⟩
theorem wt_exsN{ds:List D}(h:WT Tryz.prog T.exs ds):∃nl l,ds=[ng nl (xL l)]:=by
 obtain⟨nl,args,e⟩:=(wt_ex' h).2 rfl
 exact⟨nl,args,e⟩
theorem wt_pl'{t:TypeId}{ds:List D}(h:WT Tryz.prog t ds):(t=T.pl->∃p:Pl,ds=p.ds)/\(t=T.pls->∃nl l,ds=[ng nl (pL l)]):=by
 induction h with
 |int h=>exact⟨λe=>(by subst e;rw[Tryz.underlying32] at h;cases h),λe=>(by subst e;rw[Tryz.underlying30] at h;cases h)⟩
 |bool h=>exact⟨λe=>(by subst e;rw[Tryz.underlying32] at h;cases h),λe=>(by subst e;rw[Tryz.underlying30] at h;cases h)⟩
 |str h=>exact⟨λe=>(by subst e;rw[Tryz.underlying32] at h;cases h),λe=>(by subst e;rw[Tryz.underlying30] at h;cases h)⟩
 |nil h=>exact⟨λe=>(by subst e;rw[Tryz.underlying32] at h;cases h),λe=>⟨true,[],rfl⟩⟩
 |@sl t e es h hl hs he ih=>
  refine⟨λe=>(by subst e;rw[Tryz.underlying32] at h;cases h),λe'=>?_⟩
  subst e'
  rw[Tryz.underlying30] at h
  cases h
  have:∃l,es=pL l:=by
   clear he hs hl
   induction es with
   |nil=>exact⟨[],rfl⟩
   |cons x es ihh=>
    obtain⟨n,hn⟩:=(ih x (by simp)).1 rfl
    obtain⟨ks,hk⟩:=ihh λy hy=>ih y (by simp[hy])
    exact⟨n::ks,by rw[hn,hk];rfl⟩
  obtain⟨l,rfl⟩:=this
  exact⟨false,l,rfl⟩
 |@st t fs ds h hl hf ih=>
  refine⟨λe=>?_,λe=>(by subst e;rw[Tryz.underlying30] at h;cases h)⟩
  subst e
  rw[Tryz.underlying32] at h
  cases h
  rw[cells_pl] at hl
  match ds,hl with
  |[d0,d1,d2,d3,d4,d5,d6,d7,d8,d9,d10,d11,d12,d13,d14],_=>
   have h0:=hf _ (List.mem_cons_self ..)
   have h1:=hf _ (List.mem_cons_of_mem _ (List.mem_cons_self ..))
   have h2:=hf _ (List.mem_cons_of_mem _ (List.mem_cons_of_mem _ (List.mem_cons_self ..)))
   have h3:=hf _ (List.mem_cons_of_mem _ (List.mem_cons_of_mem _ (List.mem_cons_of_mem _ (List.mem_cons_self ..))))
   have h4:=hf _ (List.mem_cons_of_mem _ (List.mem_cons_of_mem _ (List.mem_cons_of_mem _ (List.mem_cons_of_mem _ (List.mem_cons_self ..)))))
   have h5:=hf _ (List.mem_cons_of_mem _ (List.mem_cons_of_mem _ (List.mem_cons_of_mem _ (List.mem_cons_of_mem _ (List.mem_cons_of_mem _ (List.mem_cons_self ..))))))
   have h6:=hf _ (List.mem_cons_of_mem _ (List.mem_cons_of_mem _ (List.mem_cons_of_mem _ (List.mem_cons_of_mem _ (List.mem_cons_of_mem _ (List.mem_cons_of_mem _ (List.mem_cons_self ..)))))))
   have h7:=hf _ (List.mem_cons_of_mem _ (List.mem_cons_of_mem _ (List.mem_cons_of_mem _ (List.mem_cons_of_mem _ (List.mem_cons_of_mem _ (List.mem_cons_of_mem _ (List.mem_cons_of_mem _ (List.mem_cons_self ..))))))))
   have h8:=(ih _ (List.mem_cons_of_mem _ (List.mem_cons_of_mem _ (List.mem_cons_of_mem _ (List.mem_cons_of_mem _ (List.mem_cons_of_mem _ (List.mem_cons_of_mem _ (List.mem_cons_of_mem _ (List.mem_cons_of_mem _ (List.mem_cons_self ..)))))))))).2 rfl
   dsimp only at h0 h1 h2 h3 h4 h5 h6 h7 h8
   rw[cells_int] at h0 h1
   rw[cells_intsY] at h2 h6
   rw[cells_rws] at h3
   rw[cells_ex] at h4
   rw[cells_exs] at h5
   rw[cells_ags] at h7
   rw[cells_pls] at h8
   obtain⟨a,ha⟩:=wt_int h0
   obtain⟨b,hb⟩:=wt_int h1
   obtain⟨nk,ki,hk⟩:=wt_intsN h2
   obtain⟨nr,rows,hr⟩:=wt_rws h3
   obtain⟨pred,hp⟩:=wt_ex h4
   obtain⟨nx,xs,hx⟩:=wt_exsN h5
   obtain⟨ny,keys,hy⟩:=wt_intsN h6
   obtain⟨na,aggs,hg⟩:=wt_ags h7
   obtain⟨ni,ins,hi⟩:=h8
   simp at ha hb hk hr hx hy hg hi
   refine⟨.mk ⟨a,b,nk,ki,nr,rows,pred,nx,xs,ny,keys,na,aggs⟩ ni ins,?_⟩
   rw[Pl.ds_mk,ha,hb,hk,hr,hx,hy,hg,hi]
   have hp:[d4,d5,d6,d7,d8,d9,d10]=pred.ds:=hp
   show _=[eI a,eI b,ng nk (eIs ki),ng nr (eRs rows)]++pred.ds++[ng nx (xL xs),ng ny (eIs keys),ng na (eAs aggs),ng ni (pL ins)]
   rw[<- hp];rfl
theorem wt_pl{ds:List D}(h:WT Tryz.prog T.pl ds):∃p:Pl,ds=p.ds:=(wt_pl' h).1 rfl
theorem av_pl(p:Pl):avOf Tryz.prog T.pl p.ds=p.av:=by unfold avOf;rw[Tryz.underlying32];rfl
theorem wt_bg{ds:List D}(h:WT Tryz.prog T.bg ds):∃b:Bg,ds=[b.kd,b.rd]:=by
 obtain⟨hl,hf⟩:=h.st' Tryz.underlying43
 rw[cells_bg] at hl
 match ds,hl with
 |[d0,d1],_=>
  have h0:=hf _ (List.mem_cons_self ..)
  have h1:=hf _ (List.mem_cons_of_mem _ (List.mem_cons_self ..))
  dsimp only at h0 h1
  rw[cells_intsY] at h0
  rw[cells_rws] at h1
  obtain⟨nk,ki,h0⟩:=wt_intsN h0
  obtain⟨nr,rows,h1⟩:=wt_rws h1
  simp at h0 h1
  exact⟨⟨nk,ki,nr,rows⟩,by rw[h0,h1]⟩
theorem wt_bgs{ds:List D}(h:WT Tryz.prog T.bgs ds):∃d l,ds=[d]/\SlD d (eBs l):=by
 obtain⟨d,es,h1,h2,h4,h3⟩:=h.sl' Tryz.underlying33
 have:∃c,es=eBs c:=by
  clear h1 h2 h4
  induction es with
  |nil=>exact⟨[],rfl⟩
  |cons x es ih=>
   obtain⟨b,hn⟩:=wt_bg (h3 x (by simp))
   obtain⟨ks,hk⟩:=ih λy hy=>h3 y (by simp[hy])
   exact⟨b::ks,by rw[hn,hk];rfl⟩
 obtain⟨c,rfl⟩:=this
 exact⟨d,c,h1,h2⟩
theorem av_bgs(d:D):avOf Tryz.prog T.bgs [d]=.d d:=by unfold avOf;rw[Tryz.underlying33]
theorem bgs_bulk{d:D}{I:List Bg}(h:SlD d (eBs I)){B:Nat}(hb:bulkL [d]<=B):I.length<=B/\∀b∈I,b.ki.length<=B/\b.rows.length<=B/\∀r∈b.rows,r.vs.length<=B/\∀v∈r.vs,v.s.length<=B:=by
 have h1:=sld_bulk h
 have h2:(eBs I).length<=bulkLL (eBs I):=bulkLL_len λx hx=>by
  obtain⟨b,_,rfl⟩:=List.mem_map.1 hx
  simp only[bulkL]
  unfold Bg.kd ng
  split<;>simp[bulkD]<;>omega
 rw[eBs_len] at h2
 refine⟨by omega,λb hbm=>?_⟩
 have h3:bulkL [ng b.nk (eIs b.ki),ng b.nr (eRs b.rows)]<=bulkLL (eBs I):=bulkLL_mem (List.mem_map.2 ⟨b,hbm,rfl⟩)
 have h4:=bulkD_ng b.nk (eIs b.ki)
 have h5:=bulkD_ng b.nr (eRs b.rows)
 have h6:=eIs_bulk_len b.ki
 have h7:=eRs_bulk_len b.rows
 have h8:bulkD (ng b.nk (eIs b.ki))+bulkD (ng b.nr (eRs b.rows))<=bulkL [ng b.nk (eIs b.ki),ng b.nr (eRs b.rows)]:=by simp only[bulkL];omega
 refine⟨by omega,by omega,λr hr=>?_⟩
 have b1:bulkL [ng r.nl (eVs r.vs)]<=bulkLL (eRs b.rows):=bulkLL_mem (List.mem_map.2 ⟨r,hr,rfl⟩)
 have b2:=bulkD_ng r.nl (eVs r.vs)
 have b3:bulkLL (eVs r.vs)<=B:=by simp only[bulkL] at b1;omega
 obtain⟨c1,c2⟩:=eVs_bulk_len r.vs
 exact⟨by omega,λv hv=>Nat.le_trans (c2 v hv) b3⟩
end Go.Proofs
end
