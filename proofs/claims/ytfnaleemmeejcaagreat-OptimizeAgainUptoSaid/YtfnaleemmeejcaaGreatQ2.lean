/- Texts of this claim, joined. No condition. -/
import Derived.Test.YtfnaleemmeejcaaGreatQ1
import Derived.LoopN
set_option linter.unusedSimpArgs false
set_option linter.unusedVariables false
set_option maxRecDepth 10000
set_option maxHeartbeats 4000000
section
namespace Go.Proofs
open Go.Bi
theorem Pl.cuto(o:Po)(ni:Bool)(ins:List Pl):∃(xo xn:Int)(xv:Vl)(xm:List UInt8)(xd:D),(Pl.mk o ni ins).av=F3 o.op o.n o.dk o.dr xo xn xv xm xd o.dx o.dy o.da (ng ni (pL ins))/\o.pred.av=eX xo xn xv xm xd:=by
 cases hp:o.pred with
 |mk xo xn xv xm xl xa=>exact⟨xo,xn,xv,xm,_,Pl.av_eq o ni ins xo xn xv xm xl xa hp,Ex.av_mk ..⟩
theorem Pl.cut(p:Pl):∃(op n:Int)(dk dr:D)(xo xn:Int)(xv:Vl)(xm:List UInt8)(xd dx dy da di:D),p.ds=N9 op n dk dr xo xn xv xm xd dx dy da di/\p.av=F3 op n dk dr xo xn xv xm xd dx dy da di:=by
 obtain⟨o,ni,ins⟩:=p
 cases hp:o.pred with
 |mk xo xn xv xm xl xa=>exact⟨_,_,_,_,_,_,_,_,_,_,_,_,_,Pl.ds_eq o ni ins xo xn xv xm xl xa hp,Pl.av_eq o ni ins xo xn xv xm xl xa hp⟩
mutual
def H2:Pl->Nat
 |.mk _ _ ins=>S3 ins+1
def S3:List Pl->Nat
 |[]=>0
 |p::r=>max (H2 p) (S3 r)
end
theorem C2l:∀(l:List Pl)(p:Pl),S3 (l++[p])=max (S3 l) (H2 p)
 |[],p=>by simp[S3]
 |a::l,p=>by
  show max (H2 a) (S3 (l++[p]))=max (max (H2 a) (S3 l)) (H2 p)
  rw[C2l l p,Nat.max_assoc]
theorem C2m{l:List Pl}{i:Nat}{p:Pl}(h:l[i]?=some p):S3 (l.take (i+1))=max (S3 (l.take i)) (H2 p):=by
 rw[L5,h];exact C2l _ _
theorem D89{l:List Pl}{B:Nat}(h:∀p∈l,H2 p<=B):S3 l<=B:=by
 induction l with
 |nil=>exact K1 _
 |cons a l ih=>exact Nat.max_le.2 ⟨h a (by simp),ih λp hp=>h p (by simp[hp])⟩
theorem D88:∀p:Pl,H2 p<=p.bk:=by
 refine Pl.ind λo ni ins ih=>?_
 have h:S3 ins<=(Pl.mk o ni ins).bk-1:=D89 λp hp=>by
  have h1:=ih p hp
  have h2:=Pl.bk_arg (o:=o) (ni:=ni) hp
  omega
 have:=Pl.bk_mk o ni ins
 show S3 ins+1<=_
 omega
theorem C78:∀p:Pl,p.bk<=1073741824->Pure Tryz.prog B9H [p.av] (.d (eI (H2 p:Nat))):=by
 refine Pl.ind λo ni ins ih hb=>?_
 have hB:=Pl.bd hb
 obtain⟨xo,xn,xv,xm,xd,hav,_⟩:=Pl.cuto o ni ins
 have hdd:=D88 (.mk o ni ins)
 have hq:H2 (.mk o ni ins)=S3 ins+1:=rfl
 rw[hav]
 have hdi:B0 (ng ni (pL ins)) (pL ins):=C7
 obtain⟨dk,e1⟩:∃d,d=o.dk:=⟨_,rfl⟩
 obtain⟨dr,e2⟩:∃d,d=o.dr:=⟨_,rfl⟩
 obtain⟨dx,e3⟩:∃d,d=o.dx:=⟨_,rfl⟩
 obtain⟨dy,e4⟩:∃d,d=o.dy:=⟨_,rfl⟩
 obtain⟨da,e5⟩:∃d,d=o.da:=⟨_,rfl⟩
 obtain⟨di,e6⟩:∃d,d=ng ni (pL ins):=⟨_,rfl⟩
 rw[<- e1,<- e2,<- e3,<- e4,<- e5,<- e6]
 rw[<- e6] at hdi
 clear e1 e2 e3 e4 e5 e6 hav
 have l1:=n7 ins
 have m1:=u7 ins
 have g1:=λi p=>@A0e ins i p
 obtain⟨es,hes⟩:∃z,z=pL ins:=⟨_,rfl⟩
 rw[<- hes] at hdi l1 m1 g1
 clear hes
 obtain⟨q,hqq⟩:∃q,q=H2 (.mk o ni ins):=⟨_,rfl⟩
 rw[<- hqq] at hq hdd ⊢
 have hil:=hB.il
 refine C99.go A6 rfl ?_
 repeat' first|refine st ?_|((with_reducible apply A4);conv=>whnf)|refine⟨λ_=>?_,λ_=>?_⟩|fail
 refine J5 A6 D2C D1h (λ(i:Nat)=>[.d (eI (S3 (ins.take i):Nat)),.d (eI i)]) (λi=>[.cells [.d (eI o.op),.d (eI o.n),.d dk,.d dr,.d (eI xo),.d (eI xn),.d (eI xv.k),.d (eI xv.n),.d (.str xv.s),.d (.str xm),.d xd,.d dx,.d dy,.d da,.d di]]) (λi=>i<=ins.length) (λi=>ins.length-i) 0 rfl rfl rfl rfl (λ_ _=>⟨rfl,rfl⟩) rfl (by omega) ?_
 repeat' first|refine st ?_|((with_reducible apply A4);conv=>whnf)|refine⟨λ_=>?_,λ_=>?_⟩|fail
 intro i i1
 cases hx:ins[i]? with
 |some p=>
  have hlt:=(B3.1 hx).1
  have hilt:(i:Int)<es.length:=by omega
  have hg:=g1 i p hx
  have hI:=ih p (C3 hx) (hB.sub p (C3 hx))
  have htk:=C2m hx
  obtain⟨op',n',dk',dr',xo',xn',xv',xm',xd',dx',dy',da',di',c1,c2⟩:=Pl.cut p
  have hg:es[((i:Nat):Int).toNat]?=some (N9 op' n' dk' dr' xo' xn' xv' xm' xd' dx' dy' da' di'):=by rw[<- c1];exact hg
  rw[c2] at hI
  obtain⟨u,hu⟩:∃u,u=S3 (ins.take i):=⟨_,rfl⟩
  obtain⟨v,hv⟩:∃u,u=H2 p:=⟨_,rfl⟩
  rw[<- hu,<- hv] at htk
  rw[<- hv] at hI
  rw[<- hu]
  clear c1 c2 hx hv ih g1
  repeat' first|refine st ?_|((with_reducible apply A4);conv=>whnf)|refine⟨λ_=>?_,λ_=>?_⟩|fail
  exact⟨i+1,by rw[htk,show((max u v:Nat):Int)=max (u:Int) v by omega];rfl,rfl,rfl,by omega,by omega⟩
 |none=>
  have hge:=F2.1 hx
  have hilt:(es.length:Int)<=i:=by omega
  rw[H0 hge]
  obtain⟨u,hu⟩:∃u,u=S3 ins:=⟨_,rfl⟩
  rw[<- hu] at hq ⊢
  subst hq
  clear hx ih g1 hu
  repeat' first|refine st ?_|((with_reducible apply A4);conv=>whnf)|refine⟨λ_=>?_,λ_=>?_⟩|fail
  all_goals rfl
def s4(a b:Int):Int:=if 0<a/\(1099511627776:Int).tdiv a<b then 1099511627776 else a*b
theorem B0h{a b:Int}(ha:0<=a)(hb:0<=b):0<=s4 a b/\s4 a b<=1099511627776/\(¬(0<a/\(1099511627776:Int).tdiv a<b)->0<=a*b/\a*b<=1099511627776):=by
 have key:¬(0<a/\(1099511627776:Int).tdiv a<b)->0<=a*b/\a*b<=1099511627776:=λh=>by
  refine⟨Int.mul_nonneg ha hb,?_⟩
  by_cases h0:0<a
  ·have h1:b<=(1099511627776:Int).tdiv a:=by
    by_cases h2:(1099511627776:Int).tdiv a<b
    ·exact absurd ⟨h0,h2⟩ h
    ·omega
   rw[A8u (by decide)] at h1
   exact s7 (Int.mul_le_mul_of_nonneg_left h1 ha) (Int.mul_ediv_self_le (by omega))
  ·have:a=0:=by omega
   rw[this,Int.zero_mul];decide
 unfold s4
 by_cases h:0<a/\(1099511627776:Int).tdiv a<b
 ·rw[if_pos h];exact⟨by decide,by decide,λg=>absurd h g⟩
 ·rw[if_neg h];exact⟨(key h).1,(key h).2,key⟩
theorem B4K(a b:Int)(ha:0<=a)(hb:0<=b):Pure Tryz.prog C01 [.d (eI a),.d (eI b)] (.d (eI (s4 a b))):=by
 obtain⟨_,_,h3⟩:=B0h ha hb
 obtain⟨q,hq⟩:∃q,q=s4 a b:=⟨_,rfl⟩
 rw[<- hq]
 unfold s4 at hq
 by_cases h0:0<a
 ·have hne:¬a=0:=by omega
  obtain⟨m,hm⟩:∃m,m=(1099511627776:Int).tdiv a:=⟨_,rfl⟩
  have hmd:(1099511627776:Int).tdiv a=1099511627776 / a:=A8u (by decide)
  have hm0:0<=m:=by rw[hm,hmd];exact Int.ediv_nonneg (by decide) ha
  have hm1:m<=1099511627776:=by rw[hm,hmd];exact Int.ediv_le_self _ (by decide)
  clear hmd
  rw[<- hm] at hq h3
  by_cases h1:m<b
  ·rw[if_pos ⟨h0,h1⟩] at hq
   subst hq
   refine B0V.go A6 rfl ?_
   repeat' first|refine st ?_|((with_reducible apply A4);conv=>whnf)|refine⟨λ_=>?_,λ_=>?_⟩|fail
   all_goals first|rfl|(exfalso;omega)
  ·rw[if_neg λh=>h1 h.2] at hq
   obtain⟨k1,k2⟩:=h3 λh=>h1 h.2
   subst hq
   obtain⟨z,hz⟩:∃z,z=a*b:=⟨_,rfl⟩
   rw[<- hz] at k1 k2 ⊢
   refine B0V.go A6 rfl ?_
   repeat' first|(rw[<- hz])|refine st ?_|((with_reducible apply A4);conv=>whnf)|refine⟨λ_=>?_,λ_=>?_⟩|fail
   all_goals first|rfl|(exfalso;omega)
 ·have h0':a=0:=by omega
  subst h0'
  rw[if_neg λh=>h0 h.1,Int.zero_mul] at hq
  subst hq
  refine B0V.go A6 rfl ?_
  repeat' first|refine st ?_|((with_reducible apply A4);conv=>whnf)|refine⟨λ_=>?_,λ_=>?_⟩|fail
  all_goals (rw[Int.zero_mul])
theorem B4o(a b:Int)(ha:0<=a)(hb:0<=b):Pure Tryz.prog C0o [.d (eI a),.d (eI b)] (.d (eI (s4 a b))):=by
 obtain⟨_,_,h3⟩:=B0h ha hb
 obtain⟨q,hq⟩:∃q,q=s4 a b:=⟨_,rfl⟩
 rw[<- hq]
 unfold s4 at hq
 by_cases h0:0<a
 ·have hne:¬a=0:=by omega
  obtain⟨m,hm⟩:∃m,m=(1099511627776:Int).tdiv a:=⟨_,rfl⟩
  have hmd:(1099511627776:Int).tdiv a=1099511627776 / a:=A8u (by decide)
  have hm0:0<=m:=by rw[hm,hmd];exact Int.ediv_nonneg (by decide) ha
  have hm1:m<=1099511627776:=by rw[hm,hmd];exact Int.ediv_le_self _ (by decide)
  clear hmd
  rw[<- hm] at hq h3
  by_cases h1:m<b
  ·rw[if_pos ⟨h0,h1⟩] at hq
   subst hq
   refine B0X.go A6 rfl ?_
   repeat' first|refine st ?_|((with_reducible apply A4);conv=>whnf)|refine⟨λ_=>?_,λ_=>?_⟩|fail
   all_goals first|rfl|(exfalso;omega)
  ·rw[if_neg λh=>h1 h.2] at hq
   obtain⟨k1,k2⟩:=h3 λh=>h1 h.2
   subst hq
   obtain⟨z,hz⟩:∃z,z=a*b:=⟨_,rfl⟩
   rw[<- hz] at k1 k2 ⊢
   refine B0X.go A6 rfl ?_
   repeat' first|(rw[<- hz])|refine st ?_|((with_reducible apply A4);conv=>whnf)|refine⟨λ_=>?_,λ_=>?_⟩|fail
   all_goals first|rfl|(exfalso;omega)
 ·have h0':a=0:=by omega
  subst h0'
  rw[if_neg λh=>h0 h.1,Int.zero_mul] at hq
  subst hq
  refine B0X.go A6 rfl ?_
  repeat' first|refine st ?_|((with_reducible apply A4);conv=>whnf)|refine⟨λ_=>?_,λ_=>?_⟩|fail
  all_goals (rw[Int.zero_mul])
end Go.Proofs
end
section
namespace Go.Proofs
open Go.Bi
abbrev g8:Int:=1099511627776
def V2(rs:List Int)(o:Po)(a b:Int):Int:=
 if o.op=1 then (if 0<=o.n/\o.n<rs.length then min (max (rs.getD o.n.toNat 0) 0) g8 else 0)
 else if o.op=2 then (o.rows.length:Int)
 else if o.op=3\/o.op=4\/o.op=10\/o.op=8 then a
 else if o.op=5 then s4 a b else if o.op=6 then s4 a (max b 1) else if o.op=7 then min (a+b) g8 else if o.op=9 then min a b
 else if o.op=11 then (if o.keys.length=0 then 1 else a) else 0
mutual
def H8(rs:List Int):Pl->Int
 |.mk o _ ins=>V2 rs o ((A01 rs ins).getD 0 0) ((A01 rs ins).getD 1 0)
def A01(rs:List Int):List Pl->List Int
 |[]=>[]
 |p::r=>H8 rs p::A01 rs r
end
theorem C5a(rs:List Int):∀(l:List Pl)(i:Nat),(A01 rs l)[i]?=(l[i]?).map (H8 rs)
 |[],i=>by simp[A01]
 |p::r,0=>by simp[A01]
 |p::r,i+1=>by simp only[A01,A4s];exact C5a rs r i
theorem A28(rs:List Int)(l:List Pl)(i:Nat):(A01 rs l).getD i 0=((l[i]?).map (H8 rs)).getD 0:=by
 rw[H6,C5a]
theorem E28{rs:List Int}{o:Po}{a b:Int}(ho:o.rows.length<=1073741824)(ha:0<=a/\a<=g8)(hb:0<=b/\b<=g8):0<=V2 rs o a b/\V2 rs o a b<=g8:=by
 obtain⟨a1,a2⟩:=ha
 obtain⟨b1,b2⟩:=hb
 have h5:=B0h a1 b1
 have h6:=B0h a1 (show 0<=max b 1 by omega)
 unfold V2
 unfold g8 at *
 split
 ·split<;>omega
 split
 ·omega
 split
 ·omega
 split
 ·exact⟨h5.1,h5.2.1⟩
 split
 ·exact⟨h6.1,h6.2.1⟩
 split
 ·omega
 split
 ·omega
 split
 ·split<;>omega
 ·omega
theorem B3E(rs:List Int):∀p:Pl,p.bk<=1073741824->0<=H8 rs p/\H8 rs p<=g8:=by
 refine Pl.ind λo ni ins ih hb=>?_
 have hB:=Pl.bd hb
 have key:∀i:Nat,0<=(A01 rs ins).getD i 0/\(A01 rs ins).getD i 0<=g8:=λi=>by
  rw[A28]
  cases hx:ins[i]? with
  |none=>exact⟨A0i 0,show(0:Int)<=g8 by decide⟩
  |some p=>exact ih p (C3 hx) (hB.sub p (C3 hx))
 exact E28 hB.nr (key 0) (key 1)
theorem C7t(rs:List Int)(hrs:rs.length<=1073741824)(dr':D)(hdr:B0 dr' (A5 rs)):∀p:Pl,p.bk<=1073741824->Pure Tryz.prog A59 [p.av,.d dr'] (.d (eI (H8 rs p))):=by
 refine Pl.ind λo ni ins ih hb=>?_
 have hB:=Pl.bd hb
 obtain⟨xo,xn,xv,xm,xd,hav,_⟩:=Pl.cuto o ni ins
 rw[hav]
 have hdi:B0 (ng ni (pL ins)) (pL ins):=C7
 have hdy:B0 o.dy (A5 o.keys):=C7
 have hdw:B0 o.dr (B6 o.rows):=C7
 have kl:=G4 o.keys
 have wl:=W0 o.rows
 have hk1:=hB.keys
 have hw1:=hB.nr
 have hq:H8 rs (.mk o ni ins)=V2 rs o ((A01 rs ins).getD 0 0) ((A01 rs ins).getD 1 0):=rfl
 have hsub:=B3E rs
 rw[A28,A28] at hq
 obtain⟨q,hqq⟩:∃q,q=H8 rs (.mk o ni ins):=⟨_,rfl⟩
 rw[<- hqq] at hq ⊢
 clear hqq
 have l1:=n7 ins
 have m1:=u7 ins
 have hil:=hB.il
 -- the inputs' sizes
 have hA:(ins[0]?=none/\¬(0:Int)<(pL ins).length/\¬(1:Int)<(pL ins).length)\/∃(p:Pl) (op' n':Int) (dk' dr0:D) (xo' xn':Int) (xv':Vl) (xm':List UInt8) (xd' dx' dy' da' di':D),ins[0]?=some p/\(0:Int)<(pL ins).length/\(pL ins)[(0:Int).toNat]?=some (N9 op' n' dk' dr0 xo' xn' xv' xm' xd' dx' dy' da' di')/\Bi.Pure Tryz.prog A59 [F3 op' n' dk' dr0 xo' xn' xv' xm' xd' dx' dy' da' di',.d dr'] (.d (eI (H8 rs p)))/\0<=H8 rs p/\H8 rs p<=g8:=by
  cases hx:ins[0]? with
  |none=>
   have:=F2.1 hx
   exact .inl ⟨rfl,by omega,by omega⟩
  |some p=>
   have hlt:=(B3.1 hx).1
   have hpb:=hB.sub p (C3 hx)
   obtain⟨op',n',dk',dr0,xo',xn',xv',xm',xd',dx',dy',da',di',c1,c2⟩:=Pl.cut p
   have hI:=ih p (C3 hx) hpb
   rw[c2] at hI
   exact .inr ⟨p,op',n',dk',dr0,xo',xn',xv',xm',xd',dx',dy',da',di',rfl,by omega,by rw[<- c1];exact A0e hx,hI,hsub p hpb⟩
 have hA1:(ins[1]?=none/\¬(1:Int)<(pL ins).length)\/∃(p:Pl) (op' n':Int) (dk' dr0:D) (xo' xn':Int) (xv':Vl) (xm':List UInt8) (xd' dx' dy' da' di':D),ins[1]?=some p/\(1:Int)<(pL ins).length/\(pL ins)[(1:Int).toNat]?=some (N9 op' n' dk' dr0 xo' xn' xv' xm' xd' dx' dy' da' di')/\Bi.Pure Tryz.prog A59 [F3 op' n' dk' dr0 xo' xn' xv' xm' xd' dx' dy' da' di',.d dr'] (.d (eI (H8 rs p)))/\0<=H8 rs p/\H8 rs p<=g8:=by
  cases hx:ins[1]? with
  |none=>
   have:=F2.1 hx
   exact .inl ⟨rfl,by omega⟩
  |some p=>
   have hlt:=(B3.1 hx).1
   have hpb:=hB.sub p (C3 hx)
   obtain⟨op',n',dk',dr0,xo',xn',xv',xm',xd',dx',dy',da',di',c1,c2⟩:=Pl.cut p
   have hI:=ih p (C3 hx) hpb
   rw[c2] at hI
   exact .inr ⟨p,op',n',dk',dr0,xo',xn',xv',xm',xd',dx',dy',da',di',rfl,by omega,by rw[<- c1];exact A0e hx,hI,hsub p hpb⟩
 clear ih hsub
 obtain⟨op,n,nk,ki,nr,rows,pred,nx,xs,ny,keys,na,aggs⟩:=o
 dsimp only at hdy hdw kl wl hk1 hw1 hq
 obtain⟨dk,e1⟩:∃d,d=ng nk (A5 ki):=⟨_,rfl⟩
 obtain⟨dr,e2⟩:∃d,d=ng nr (B6 rows):=⟨_,rfl⟩
 obtain⟨dx,e3⟩:∃d,d=ng nx (xL xs):=⟨_,rfl⟩
 obtain⟨dy,e4⟩:∃d,d=ng ny (A5 keys):=⟨_,rfl⟩
 obtain⟨da,e5⟩:∃d,d=ng na (H4 aggs):=⟨_,rfl⟩
 obtain⟨di,e6⟩:∃d,d=ng ni (pL ins):=⟨_,rfl⟩
 show Bi.Pure Tryz.prog A59 [F3 op n (ng nk (A5 ki)) (ng nr (B6 rows)) xo xn xv xm xd (ng nx (xL xs)) (ng ny (A5 keys)) (ng na (H4 aggs)) (ng ni (pL ins)),.d dr'] (.d (eI q))
 rw[<- e1,<- e2,<- e3,<- e4,<- e5,<- e6]
 have hdy:B0 dy (A5 keys):=by rw[e4];exact hdy
 have hdw:B0 dr (B6 rows):=by rw[e2];exact hdw
 rw[<- e6] at hdi
 clear e1 e2 e3 e4 e5 e6 hav hB hb
 have r1:=G4 rs
 have rm:=I0 rs
 have rg:=λi k=>@Q1 rs i k
 have hops:op=1\/op=2\/op=3\/op=4\/op=5\/op=6\/op=7\/op=8\/op=9\/op=10\/op=11\/(op≠1/\op≠2/\op≠3/\op≠4/\op≠5/\op≠6/\op≠7/\op≠8/\op≠9/\op≠10/\op≠11):=by omega
 obtain⟨es,hes⟩:∃z,z=pL ins:=⟨_,rfl⟩
 rw[<- hes] at hdi l1 m1 hA hA1
 obtain⟨rr,hrr⟩:∃z,z=A5 rs:=⟨_,rfl⟩
 rw[<- hrr] at hdr r1 rm rg
 obtain⟨ww,hww⟩:∃z,z=B6 rows:=⟨_,rfl⟩
 rw[<- hww] at hdw wl
 obtain⟨kk,hkk⟩:∃z,z=A5 keys:=⟨_,rfl⟩
 rw[<- hkk] at hdy kl
 have wm:∀e∈ww,e.length=1:=by rw[hww];exact X8 rows
 have km:∀e∈kk,e.length=1:=by rw[hkk];exact I0 keys
 clear hes hrr hww hkk
 -- the sizes of the inputs
 have hAB:∃a b:Int,(0<=a/\a<=g8)/\(0<=b/\b<=g8)/\a=((ins[0]?).map (H8 rs)).getD 0/\b=((ins[1]?).map (H8 rs)).getD 0:=by
  refine⟨_,_,?_,?_,rfl,rfl⟩
  ·rcases hA with ⟨h,_⟩|⟨p,_,_,_,_,_,_,_,_,_,_,_,_,_,h,_,_,_,h3,h4⟩
   ·rw[h];exact⟨A0i 0,show(0:Int)<=g8 by decide⟩
   ·rw[h];exact⟨h3,h4⟩
  ·rcases hA1 with ⟨h,_⟩|⟨p,_,_,_,_,_,_,_,_,_,_,_,_,_,h,_,_,_,h3,h4⟩
   ·rw[h];exact⟨A0i 0,show(0:Int)<=g8 by decide⟩
   ·rw[h];exact⟨h3,h4⟩
 obtain⟨a,b,⟨a1,a2⟩,⟨b1,b2⟩,ea,eb⟩:=hAB
 rw[<- ea,<- eb] at hq
 have hT:=B4K a b a1 b1
 have hT2:=B4K a (max b 1) a1 (by omega)
 unfold g8 at a2 b2
 unfold V2 at hq
 dsimp only at hq
 -- what the operator says
 have hcase:(op=1/\0<=n/\n<rr.length/\∃k:Int,rr[n.toNat]?=some [eI k]/\q=min (max k 0) 1099511627776)\/(op=1/\n<0/\q=0)\/(op=1/\0<=n/\(rr.length:Int)<=n/\q=0)\/(op=2/\q=ww.length)\/(op=3/\q=a)\/(op=4/\q=a)\/(op=10/\q=a)\/(op=8/\q=a)\/(op=5/\q=s4 a b)\/(op=6/\q=s4 a (max b 1))\/(op=7/\q=min (a+b) 1099511627776)\/(op=9/\q=min a b)\/(op=11/\(kk.length:Int)=0/\q=1)\/(op=11/\¬(kk.length:Int)=0/\q=a)\/
   ((op≠1/\op≠2/\op≠3/\op≠4/\op≠5/\op≠6/\op≠7/\op≠8/\op≠9/\op≠10/\op≠11)/\q=0):=by
  rcases hops with rfl|rfl|rfl|rfl|rfl|rfl|rfl|rfl|rfl|rfl|rfl|hops
  ·rw[if_pos rfl] at hq
   by_cases h1:0<=n/\n<rs.length
   ·rw[if_pos h1] at hq
    obtain⟨k,hk⟩:∃k,rs[n.toNat]?=some k:=⟨_,F1 (by omega)⟩
    rw[H6,hk] at hq
    exact .inl ⟨rfl,h1.1,by omega,k,rg _ _ hk,hq⟩
   ·rw[if_neg h1] at hq
    by_cases h2:n<0
    ·exact .inr (.inl ⟨rfl,h2,hq⟩)
    ·exact .inr (.inr (.inl ⟨rfl,by omega,by omega,hq⟩))
  all_goals try (simp at hq)
  all_goals try (rw[wl];simp[hq];done)
  all_goals try (simp[hq];done)
  ·by_cases h0:keys=[]
   ·rw[if_pos h0] at hq
    have hk0:(kk.length:Int)=0:=by rw[kl,h0];rfl
    simp[hq,hk0]
   ·rw[if_neg h0] at hq
    have hk0:¬(kk.length:Int)=0:=by
     have:keys.length≠0:=λh=>h0 (A0H.1 h)
     omega
    have hk1:¬kk=[]:=λh=>hk0 (by rw[h];rfl)
    simp[hq,hk1]
  ·obtain⟨o1,o2,o3,o4,o5,o6,o7,o8,o9,o10,o11⟩:=hops
   simp[o1,o2,o3,o4,o5,o6,o7,o8,o9,o10,o11] at hq
   simp[o1,o2,o3,o4,o5,o6,o7,o8,o9,o10,o11,hq]
 clear hq hops rg
 rcases hA with ⟨h,ha1,ha2⟩|⟨p,op',n',dk',dr0,xo',xn',xv',xm',xd',dx',dy',da',di',h,ha1,ha2,hP,_⟩<;>
 rcases hA1 with ⟨h',hb1⟩|⟨p',op1,n1,dk1,dr1,xo1,xn1,xv1,xm1,xd1,dx1,dy1,da1,di1,h',hb1,hb2,hP1,_⟩
 all_goals rw[h] at ea;rw[h'] at eb
 all_goals first
  |(have ea:a=H8 rs p:=ea;rw[<- ea] at hP)
  |(have ea:a=0:=ea;subst ea)
 all_goals first
  |(have eb:b=H8 rs p':=eb;rw[<- eb] at hP1)
  |(have eb:b=0:=eb;subst eb)
 all_goals clear h h' ea eb
 all_goals try (exfalso;omega;done)
 all_goals
  rcases hcase with ⟨rfl,z1,z2,k,z3,rfl⟩|⟨rfl,z1,rfl⟩|⟨rfl,z1,z2,rfl⟩|⟨rfl,rfl⟩|⟨rfl,rfl⟩|⟨rfl,rfl⟩|⟨rfl,rfl⟩|⟨rfl,rfl⟩|⟨rfl,rfl⟩|⟨rfl,rfl⟩|⟨rfl,rfl⟩|⟨rfl,rfl⟩|⟨rfl,z1,rfl⟩|⟨rfl,z1,rfl⟩|⟨⟨o1,o2,o3,o4,o5,o6,o7,o8,o9,o10,o11⟩,rfl⟩
 all_goals refine C9t.go A6 rfl ?_
 all_goals repeat' first|refine st ?_|((with_reducible apply A4);conv=>whnf)|refine⟨λ_=>?_,λ_=>?_⟩|fail
 all_goals rfl
end Go.Proofs
end
section
namespace Go.Proofs
open Go.Bi
def U7(op n:Int):Bool×Bool:=
 if op=1\/op=2 then (decide (n=0),true)
 else if op=4\/op=18\/op=20\/op=21 then (decide (n=1),true)
 else if op=7\/op=8\/op=9\/op=10\/op=11\/op=12\/op=13\/op=14\/op=15\/op=16\/op=17\/op=19 then (decide (n=2),true)
 else if op=5\/op=6 then (decide (2<=n),true)
 else if op=22 then (decide (n=3),true)
 else if op=23 then (decide (1<=n),true)
 else if op=24 then (decide (n=4),true) else (false,false)
theorem B49(op n:Int):Pure Tryz.prog B1A [.d (eI op),.d (eI n)] (.tup [.d (.bool (U7 op n).1),.d (.bool (U7 op n).2)]):=by
 refine C9K.go A6 rfl ?_
 repeat' first|refine st ?_|refine⟨λ_=>?_,λ_=>?_⟩|fail
 all_goals first
  |(subst_vars;rfl)
  |(simp only[U7];rw[if_neg (by omega),if_neg (by omega),if_neg (by omega),if_neg (by omega),if_neg (by omega),if_neg (by omega),if_neg (by omega)])
def w8(op:Int):Int×Int:=
 if op=1\/op=2 then (0,0)
 else if op=4\/op=18\/op=20\/op=21 then (1,1)
 else if op=7\/op=8\/op=9\/op=10\/op=11\/op=12\/op=13\/op=14\/op=15\/op=16\/op=17\/op=19 then (2,2)
 else if op=5\/op=6 then (2,1099511627776)
 else if op=22 then (3,3)
 else if op=23 then (1,1099511627776)
 else if op=24 then (4,4) else (-1,0)
theorem B4s(op:Int):Pure Tryz.prog B1m [.d (eI op)] (.tup [.d (eI (w8 op).1),.d (eI (w8 op).2)]):=by
 refine C8N.go A6 rfl ?_
 repeat' first|refine st ?_|refine⟨λ_=>?_,λ_=>?_⟩|fail
 all_goals first
  |(subst_vars;rfl)
  |(simp only[w8];rw[if_neg (by omega),if_neg (by omega),if_neg (by omega),if_neg (by omega),if_neg (by omega),if_neg (by omega),if_neg (by omega)])
theorem C1o(op:Int)(k:Nat)(hk:k<=1073741824):(U7 op k).1=decide (¬((w8 op).1<0\/(k:Int)<(w8 op).1\/(w8 op).2<(k:Int)))/\(U7 op k).2=decide (¬(w8 op).1<0):=by
 unfold U7 w8
 repeat' split
 all_goals (constructor<;>(rw[A0Z];simp;try omega))
end Go.Proofs
end
section
namespace Go.Proofs
open Go.Bi
def J7(op n:Int)(v:Vl)(name:List UInt8)(k:Nat):Bool:=
 (U7 op k).1&&decide (name=[])&&(if op=1 then decide (n=0)&&N5 v else if op=24 then decide (0<=n/\n<13)&&decide (v=C5) else if op=2 then decide (v=C5) else decide (n=0)&&decide (v=C5))
theorem A65(v:Vl):decide (v=C5)=(decide (v.k=0)&&(decide (v.n=0)&&decide (v.s=[]))):=by
 rw[A0Z]
 simp only[decide_eq_true_eq,J9,A86]
 exact Iff.rfl
theorem A9t(n:Int)(v:Vl)(k:Nat)(h:(U7 1 k).1=true):J7 1 n v [] k=(decide (n=0)&&N5 v):=by unfold J7;rw[h];rfl
theorem C37(n:Int)(v:Vl)(k:Nat)(h:(U7 24 k).1=true):J7 24 n v [] k=(decide (0<=n/\n<13)&&decide (v=C5)):=by unfold J7;rw[h];rfl
theorem C36(n:Int)(v:Vl)(k:Nat)(h:(U7 2 k).1=true):J7 2 n v [] k=decide (v=C5):=by unfold J7;rw[h];rfl
theorem A7e(op n:Int)(v:Vl)(k:Nat)(h:(U7 op k).1=true)(h1:op≠1)(h2:op≠24)(h3:op≠2):J7 op n v [] k=(decide (n=0)&&decide (v=C5)):=by unfold J7;rw[h,if_neg h1,if_neg h2,if_neg h3];rfl
theorem B4a(op n:Int)(v:Vl)(name:List UInt8)(d:D)(es:List (List D))(hd:B0 d es)(hs:v.s.length<=1073741824)(hl:es.length<=1073741824):Pure Tryz.prog C0d [eX op n v name d] (.d (.bool (J7 op n v name es.length))):=by
 refine C9M.go A6 rfl ?_
 have hV:=A8l v (by omega)
 have hC:=B49 op es.length
 cases hc:(U7 op es.length).1 with
 |false=>
  have hr:J7 op n v name es.length=false:=by unfold J7;rw[hc];rfl
  rw[hr]
  rw[hc] at hC
  repeat' first|refine st ?_|((with_reducible apply A4);conv=>whnf)|refine⟨λ_=>?_,λ_=>?_⟩|fail
 |true=>
 rw[hc] at hC
 by_cases hn:name=[]
 rotate_left
 ·have hr:J7 op n v name es.length=false:=by unfold J7;rw[decide_eq_false hn,Bool.and_false];rfl
  rw[hr]
  repeat' first|refine st ?_|((with_reducible apply A4);conv=>whnf)|refine⟨λ_=>?_,λ_=>?_⟩|fail
  all_goals rfl
 subst hn
 by_cases h1:op=1
 ·subst h1
  obtain⟨r,hr⟩:∃r,r=J7 1 n v [] es.length:=⟨_,rfl⟩
  rw[<- hr]
  rw[A9t _ _ _ hc] at hr
  by_cases hn:n=0
  ·rw[decide_eq_true hn] at hr
   repeat' first|refine st ?_|((with_reducible apply A4);conv=>whnf)|refine⟨λ_=>?_,λ_=>?_⟩|fail
   all_goals (rw[hr];try rfl)
  ·rw[decide_eq_false hn] at hr
   repeat' first|refine st ?_|((with_reducible apply A4);conv=>whnf)|refine⟨λ_=>?_,λ_=>?_⟩|fail
   all_goals (rw[hr];try rfl)
 by_cases h2:op=24
 ·subst h2
  obtain⟨r,hr⟩:∃r,r=J7 24 n v [] es.length:=⟨_,rfl⟩
  rw[<- hr]
  rw[C37 _ _ _ hc,A65] at hr
  by_cases hn:0<=n/\n<13
  ·rw[decide_eq_true hn] at hr
   obtain⟨n1,n2⟩:=hn
   have n3:¬n<0:=by omega
   have n4:¬13<=n:=by omega
   repeat' first|refine st ?_|((with_reducible apply A4);conv=>whnf)|refine⟨λ_=>?_,λ_=>?_⟩|fail
   all_goals (rw[hr];try (clear hr;simp_all[C5];try omega))
  ·rw[decide_eq_false hn] at hr
   repeat' first|refine st ?_|((with_reducible apply A4);conv=>whnf)|refine⟨λ_=>?_,λ_=>?_⟩|fail
   all_goals (rw[hr];try (clear hr;simp_all[C5];try omega))
 by_cases h3:op=2
 ·subst h3
  obtain⟨r,hr⟩:∃r,r=J7 2 n v [] es.length:=⟨_,rfl⟩
  rw[<- hr]
  rw[C36 _ _ _ hc,A65] at hr
  repeat' first|refine st ?_|((with_reducible apply A4);conv=>whnf)|refine⟨λ_=>?_,λ_=>?_⟩|fail
  all_goals (rw[hr];try rfl)
 obtain⟨r,hr⟩:∃r,r=J7 op n v [] es.length:=⟨_,rfl⟩
 rw[<- hr]
 rw[A7e _ _ _ _ hc h1 h2 h3,A65] at hr
 by_cases hn:n=0
 ·rw[decide_eq_true hn] at hr
  repeat' first|refine st ?_|((with_reducible apply A4);conv=>whnf)|refine⟨λ_=>?_,λ_=>?_⟩|fail
  all_goals (rw[hr];try rfl)
 ·rw[decide_eq_false hn] at hr
  repeat' first|refine st ?_|((with_reducible apply A4);conv=>whnf)|refine⟨λ_=>?_,λ_=>?_⟩|fail
  all_goals (rw[hr];try rfl)
theorem B4v(op n:Int)(v:Vl)(name:List UInt8)(d:D)(es:List (List D))(hd:B0 d es)(hs:v.s.length<=1073741824)(hl:es.length<=1073741824):Pure Tryz.prog B9t [eX op n v name d] (.d (.bool (J7 op n v name es.length))):=by
 refine C8Q.go A6 rfl ?_
 have hV:=A6f v (by omega)
 have hC:=B4s op
 have hac:=(C1o op es.length hl).1
 cases hc:(U7 op es.length).1 with
 |false=>
  have hr:J7 op n v name es.length=false:=by unfold J7;rw[hc];rfl
  rw[hr]
  rw[hc] at hac
  have hac:(w8 op).1<0\/(es.length:Int)<(w8 op).1\/(w8 op).2<(es.length:Int):=by
   have:=of_decide_eq_false hac.symm
   omega
  repeat' first|refine st ?_|((with_reducible apply A4);conv=>whnf)|refine⟨λ_=>?_,λ_=>?_⟩|fail
  all_goals first|rfl|(exfalso;omega)
 |true=>
 rw[hc] at hac
 have hac:=of_decide_eq_true hac.symm
 have a1:¬(w8 op).1<0:=by omega
 have a2:¬(es.length:Int)<(w8 op).1:=by omega
 have a3:¬(w8 op).2<(es.length:Int):=by omega
 clear hac
 by_cases hn:name=[]
 rotate_left
 ·have hr:J7 op n v name es.length=false:=by unfold J7;rw[decide_eq_false hn,Bool.and_false];rfl
  rw[hr]
  repeat' first|refine st ?_|((with_reducible apply A4);conv=>whnf)|refine⟨λ_=>?_,λ_=>?_⟩|fail
  all_goals rfl
 subst hn
 by_cases h1:op=1
 ·subst h1
  obtain⟨r,hr⟩:∃r,r=J7 1 n v [] es.length:=⟨_,rfl⟩
  rw[<- hr]
  rw[A9t _ _ _ hc] at hr
  by_cases hn:n=0
  ·rw[decide_eq_true hn] at hr
   repeat' first|refine st ?_|((with_reducible apply A4);conv=>whnf)|((with_reducible first|apply E9|apply E8);(·exact S2))|refine⟨λ_=>?_,λ_=>?_⟩|fail
   all_goals (rw[hr];try rfl)
  ·rw[decide_eq_false hn] at hr
   repeat' first|refine st ?_|((with_reducible apply A4);conv=>whnf)|((with_reducible first|apply E9|apply E8);(·exact S2))|refine⟨λ_=>?_,λ_=>?_⟩|fail
   all_goals (rw[hr];try rfl)
 by_cases h2:op=24
 ·subst h2
  obtain⟨r,hr⟩:∃r,r=J7 24 n v [] es.length:=⟨_,rfl⟩
  rw[<- hr]
  rw[C37 _ _ _ hc,A65] at hr
  by_cases hn:0<=n/\n<13
  ·rw[decide_eq_true hn] at hr
   obtain⟨n1,n2⟩:=hn
   have n3:¬n<0:=by omega
   have n4:¬13<=n:=by omega
   repeat' first|refine st ?_|((with_reducible apply A4);conv=>whnf)|((with_reducible first|apply E9|apply E8);(·exact S2))|refine⟨λ_=>?_,λ_=>?_⟩|fail
   all_goals (rw[hr];try (clear hr;simp_all[C5];try omega))
  ·rw[decide_eq_false hn] at hr
   repeat' first|refine st ?_|((with_reducible apply A4);conv=>whnf)|((with_reducible first|apply E9|apply E8);(·exact S2))|refine⟨λ_=>?_,λ_=>?_⟩|fail
   all_goals (rw[hr];try (clear hr;simp_all[C5];try omega))
 by_cases h3:op=2
 ·subst h3
  obtain⟨r,hr⟩:∃r,r=J7 2 n v [] es.length:=⟨_,rfl⟩
  rw[<- hr]
  rw[C36 _ _ _ hc,A65] at hr
  repeat' first|refine st ?_|((with_reducible apply A4);conv=>whnf)|((with_reducible first|apply E9|apply E8);(·exact S2))|refine⟨λ_=>?_,λ_=>?_⟩|fail
  all_goals (rw[hr];try rfl)
 obtain⟨r,hr⟩:∃r,r=J7 op n v [] es.length:=⟨_,rfl⟩
 rw[<- hr]
 rw[A7e _ _ _ _ hc h1 h2 h3,A65] at hr
 by_cases hn:n=0
 ·rw[decide_eq_true hn] at hr
  repeat' first|refine st ?_|((with_reducible apply A4);conv=>whnf)|((with_reducible first|apply E9|apply E8);(·exact S2))|refine⟨λ_=>?_,λ_=>?_⟩|fail
  all_goals (rw[hr];try rfl)
 ·rw[decide_eq_false hn] at hr
  repeat' first|refine st ?_|((with_reducible apply A4);conv=>whnf)|((with_reducible first|apply E9|apply E8);(·exact S2))|refine⟨λ_=>?_,λ_=>?_⟩|fail
  all_goals (rw[hr];try rfl)
end Go.Proofs
end
section
namespace Go.Proofs
open Go.Bi
def M3(n:Int):Int:=IntKind.i64.wrap n
def nSm(n:Int):Prop:=-1125899906842624<=n/\n<=1125899906842624
theorem E2y{v:Vl}(h:N5 v=true):nSm v.n:=by
 unfold N5 at h
 unfold nSm
 repeat' split at h
 all_goals simp at h
 all_goals omega
theorem C5s{v:Vl}(h:N5 v=true):v.s.length<=200:=by
 unfold N5 at h
 repeat' split at h
 all_goals simp at h
 ·rw[h.2];simp
 ·rw[h.1];simp
 ·exact h.1.2
 ·rw[h.1];simp
def b7(l:List Vl)(i:Int):Vl:=Y5 (O3 l i)
theorem C6p(l:List Vl)(hl:l.length<=1073741824)(hs:∀v∈l,v.s.length<=1073741824)(d:D)(hd:B0 d (B2 l))(i:Int):Pure Tryz.prog C0b [.d d,.d (eI i)] (eV (b7 l i)):=by
 refine C9I.go A6 rfl ?_
 have hP:=C7Z l (by omega) d hd i
 have hV:=A8l (O3 l i) (by
  unfold O3
  split
  ·simp[C5]
  ·rw[H6]
   cases h:l[i.toNat]? with
   |none=>simp[C5]
   |some v=>have:=hs v (C3 h);simp;omega)
 unfold b7 Y5
 have hg:([(O3 l i).ds]:List (List D))[(0:Nat)]?=some (O3 l i).ds:=rfl
 cases hv:N5 (O3 l i) with
 |true=>
  rw[hv] at hV
  repeat' first|refine st ?_|((with_reducible apply A4);conv=>whnf)|refine⟨λ_=>?_,λ_=>?_⟩|fail
  all_goals rfl
 |false=>
  rw[hv] at hV
  repeat' first|refine st ?_|((with_reducible apply A4);conv=>whnf)|((with_reducible first|apply E9|apply E8);(·exact w6))|refine⟨λ_=>?_,λ_=>?_⟩|fail
  all_goals rfl
theorem E2n{l:List Vl}(hs:∀v∈l,v.s.length<=1073741824)(i:Int):(O3 l i).s.length<=1073741824:=by
 unfold O3
 split
 ·simp[C5]
 ·rw[H6]
  cases h:l[i.toNat]? with
  |none=>simp[C5]
  |some v=>exact hs v (C3 h)
def vLf(op n:Int)(v:Vl)(l:List Vl):Vl:=Y5 (if op=2 then O3 l n else v)
theorem C6Z(op n:Int)(v:Vl)(name:List UInt8)(da:D)(hvs:v.s.length<=1073741824)(l:List Vl)(hl:l.length<=1073741824)(hs:∀v∈l,v.s.length<=1073741824)(d:D)(hd:B0 d (B2 l)):Pure Tryz.prog B9A [eX op n v name da,.d d] (eV (vLf op n v l)):=by
 refine C92.go A6 rfl ?_
 have hA:=B4O l (by omega) d hd n
 by_cases h:op=2
 ·have hV:=A6f (O3 l n) (by have:=E2n hs n;omega)
  unfold vLf
  rw[if_pos h]
  unfold Y5
  cases hv:N5 (O3 l n) with
  |true=>
   rw[hv] at hV
   repeat' first|refine st ?_|((with_reducible apply A4);conv=>whnf)|refine⟨λ_=>?_,λ_=>?_⟩|fail
   all_goals rfl
  |false=>
   rw[hv] at hV
   repeat' first|refine st ?_|((with_reducible apply A4);conv=>whnf)|((with_reducible first|apply E9|apply E8);(·exact S2))|refine⟨λ_=>?_,λ_=>?_⟩|fail
   all_goals rfl
 ·have hV:=A6f v (by omega)
  unfold vLf
  rw[if_neg h]
  unfold Y5
  cases hv:N5 v with
  |true=>
   rw[hv] at hV
   repeat' first|refine st ?_|((with_reducible apply A4);conv=>whnf)|refine⟨λ_=>?_,λ_=>?_⟩|fail
   all_goals rfl
  |false=>
   rw[hv] at hV
   repeat' first|refine st ?_|((with_reducible apply A4);conv=>whnf)|((with_reducible first|apply E9|apply E8);(·exact S2))|refine⟨λ_=>?_,λ_=>?_⟩|fail
   all_goals rfl
def vCp(op:Int)(a b:Vl):Int:=if op=7 then vEq a b else if op=8 then A02 (vEq a b) else if op=9 then A64 a b else if op=11 then A64 b a else if op=10 then A02 (A64 b a) else A02 (A64 a b)
theorem C6q(op:Int)(a b:Vl):Pure Tryz.prog C0c [.d (eI op),eV a,eV b] (.d (eI (vCp op a b))):=by
 refine C9J.go A6 rfl ?_
 repeat' first|refine st ?_|((with_reducible apply A4);conv=>whnf)|((with_reducible first|apply E9|apply E8);(·first|exact C81 _ _|exact B0P _|exact C82 _ _))|refine⟨λ_=>?_,λ_=>?_⟩|fail
 all_goals simp[vCp, *]
theorem C6W(op:Int)(a b:Vl):Pure Tryz.prog B9y [.d (eI op),eV a,eV b] (.d (eI (vCp op a b))):=by
 refine C8Z.go A6 rfl ?_
 repeat' first|refine st ?_|((with_reducible apply A4);conv=>whnf)|((with_reducible first|apply E9|apply E8);(·first|exact C7v _ _|exact B4L _|exact C7w _ _))|refine⟨λ_=>?_,λ_=>?_⟩|fail
 all_goals simp[vCp, *]
def W1(l:List Vl)(k:Int):Bool:=l.all λv=>decide (v.k=k)
theorem A6d(l:List Vl)(hl:l.length<=1073741824)(d:D)(hd:B0 d (B2 l))(k:Int):Pure Tryz.prog B9x [.d d,.d (eI k)] (.d (.bool (W1 l k))):=by
 refine C8X.go A6 rfl ?_
 have h1:=Q2 l
 have hm:=Q3 l
 repeat' first|refine st ?_|((with_reducible apply A4);conv=>whnf)|refine⟨λ_=>?_,λ_=>?_⟩|fail
 refine J5 A6 D2u D19 (λ(i:Nat)=>[.d (eI i)]) (λi=>[]) (λi=>i<=l.length/\(l.take i).all (λv=>decide (v.k=k))=true) (λi=>l.length-i) 0 rfl rfl rfl rfl (λ_ _=>⟨rfl,rfl⟩) rfl ⟨by omega,rfl⟩ ?_
 repeat' first|refine st ?_|((with_reducible apply A4);conv=>whnf)|refine⟨λ_=>?_,λ_=>?_⟩|fail
 intro i ⟨h2,h3⟩
 cases hx:l[i]? with
 |some v=>
  have hlt:=(B3.1 hx).1
  have hg:=m6 hx
  by_cases hk:v.k=k
  ·repeat' first|refine st ?_|((with_reducible apply A4);conv=>whnf)|refine⟨λ_=>?_,λ_=>?_⟩|fail
   refine⟨i+1,rfl,rfl,rfl,by omega,by omega,?_⟩
   rw[A4w hx,h3,decide_eq_true hk];rfl
  ·repeat' first|refine st ?_|((with_reducible apply A4);conv=>whnf)|refine⟨λ_=>?_,λ_=>?_⟩|fail
   rw[W1,A3L hx (decide_eq_false hk)]
 |none=>
  have hge:=F2.1 hx
  rw[H0 hge] at h3
  repeat' first|refine st ?_|((with_reducible apply A4);conv=>whnf)|refine⟨λ_=>?_,λ_=>?_⟩|fail
  rw[W1,h3]
def vPr(a b:Int):Vl:=if a≠0/\M3 (Int.tdiv 1125899906842624 (max a (0-a)))<max b (0-b) then C5 else Y4 (M3 (a*b))
theorem C6v(a b:Int)(ha:nSm a)(hb:nSm b):Pure Tryz.prog C0f [.d (eI a),.d (eI b)] (eV (vPr a b)):=by
 refine C9P.go A6 rfl ?_
 obtain⟨a1,a2⟩:=ha
 obtain⟨b1,b2⟩:=hb
 unfold vPr
 by_cases h0:a=0
 ·rw[if_neg (by omega)]
  repeat' first|refine st ?_|((with_reducible apply A4);conv=>whnf)|((with_reducible first|apply E9|apply E8);(·first|exact w6|exact A2U _))|refine⟨λ_=>?_,λ_=>?_⟩|fail
  all_goals rfl
 ·have hne:max a (0-a)≠0:=by omega
  by_cases h1:M3 (Int.tdiv 1125899906842624 (max a (0-a)))<max b (0-b)
  ·rw[if_pos ⟨h0,h1⟩]
   repeat' first|refine st ?_|((with_reducible apply A4);conv=>whnf)|((with_reducible first|apply E9|apply E8);(·first|exact w6|exact A2U _))|refine⟨λ_=>?_,λ_=>?_⟩|fail
   all_goals rfl
  ·rw[if_neg (λh=>h1 h.2)]
   repeat' first|refine st ?_|((with_reducible apply A4);conv=>whnf)|((with_reducible first|apply E9|apply E8);(·first|exact w6|exact A2U _))|refine⟨λ_=>?_,λ_=>?_⟩|fail
   all_goals rfl
def A3p(op a b:Int):Vl:=if op=13 then Y4 (a+b) else if op=14 then Y4 (a-b) else if op=15 then vPr a b else if b=0 then C5 else if op=16 then Y4 (M3 (a.tdiv b)) else Y4 (a.tmod b)
theorem B4A(a:Int)(ha:nSm a):Pure Tryz.prog B9v [.d (eI a)] (.d (eI (max a (0-a)))):=by
 refine C8V.go A6 rfl ?_
 obtain⟨a1,a2⟩:=ha
 repeat' first|refine st ?_|((with_reducible apply A4);conv=>whnf)|refine⟨λ_=>?_,λ_=>?_⟩|fail
theorem C6X(op a b:Int)(ha:nSm a)(hb:nSm b):Pure Tryz.prog B9z [.d (eI op),.d (eI a),.d (eI b)] (eV (A3p op a b)):=by
 refine C90.go A6 rfl ?_
 have hA:=B4A a ha
 have hB:=B4A b hb
 obtain⟨a1,a2⟩:=ha
 obtain⟨b1,b2⟩:=hb
 by_cases h13:op=13
 ·subst h13
  repeat' first|refine st ?_|((with_reducible apply A4);conv=>whnf)|((with_reducible first|apply E9|apply E8);(·exact A0C _))|refine⟨λ_=>?_,λ_=>?_⟩|fail
  all_goals rfl
 by_cases h14:op=14
 ·subst h14
  repeat' first|refine st ?_|((with_reducible apply A4);conv=>whnf)|((with_reducible first|apply E9|apply E8);(·exact A0C _))|refine⟨λ_=>?_,λ_=>?_⟩|fail
  all_goals rfl
 by_cases h15:op=15
 ·subst h15
  show Go _
  have e:A3p 15 a b=vPr a b:=rfl
  rw[e]
  unfold vPr
  by_cases h0:a=0
  ·rw[if_neg (by omega)]
   repeat' first|refine st ?_|((with_reducible apply A4);conv=>whnf)|((with_reducible first|apply E9|apply E8);(·first|exact S2|exact A0C _))|refine⟨λ_=>?_,λ_=>?_⟩|fail
   all_goals rfl
  ·have hne:max a (0-a)≠0:=by omega
   by_cases h1:M3 (Int.tdiv 1125899906842624 (max a (0-a)))<max b (0-b)
   ·rw[if_pos ⟨h0,h1⟩]
    repeat' first|refine st ?_|((with_reducible apply A4);conv=>whnf)|((with_reducible first|apply E9|apply E8);(·first|exact S2|exact A0C _))|refine⟨λ_=>?_,λ_=>?_⟩|fail
    all_goals rfl
   ·rw[if_neg (λh=>h1 h.2)]
    repeat' first|refine st ?_|((with_reducible apply A4);conv=>whnf)|((with_reducible first|apply E9|apply E8);(·first|exact S2|exact A0C _))|refine⟨λ_=>?_,λ_=>?_⟩|fail
    all_goals rfl
 unfold A3p
 rw[if_neg h13,if_neg h14,if_neg h15]
 by_cases h0:b=0
 ·rw[if_pos h0]
  repeat' first|refine st ?_|((with_reducible apply A4);conv=>whnf)|((with_reducible first|apply E9|apply E8);(·first|exact S2|exact A0C _))|refine⟨λ_=>?_,λ_=>?_⟩|fail
  all_goals rfl
 rw[if_neg h0]
 by_cases h16:op=16
 ·rw[if_pos h16]
  repeat' first|refine st ?_|((with_reducible apply A4);conv=>whnf)|((with_reducible first|apply E9|apply E8);(·first|exact S2|exact A0C _))|refine⟨λ_=>?_,λ_=>?_⟩|fail
  all_goals rfl
 ·rw[if_neg h16]
  repeat' first|refine st ?_|((with_reducible apply A4);conv=>whnf)|((with_reducible first|apply E9|apply E8);(·first|exact S2|exact A0C _))|refine⟨λ_=>?_,λ_=>?_⟩|fail
  all_goals rfl
end Go.Proofs
end
section
namespace Go.Proofs
open Go.Bi
def U9(op t:Int)(v:Vl):Int:=if op=5 then A4i t (L8 v) else tOr t (L8 v)
def lgF(op:Int)(a:Vl)(r:List Vl):Int:=r.foldl (U9 op) (L8 a)
theorem A9u{α β:Type}(f:β->α->β)(b:β)(l:List α)(i:Nat)(x:α)(h:l[i]?=some x):(l.take (i+1)).foldl f b=f ((l.take i).foldl f b) x:=by
 rw[L5,h];simp
theorem C70(op:Int)(a:Vl)(r:List Vl)(hl:r.length<=1073741824):Pure Tryz.prog B9B [.d (eI op),.d (.sl (B2 (a::r)))] (eV (O9 (lgF op a r))):=by
 refine C93.go A6 rfl ?_
 have h1:(B2 (a::r)).length=r.length+1:=by rw[Q2];rfl
 have hm:=Q3 (a::r)
 have hg0:(B2 (a::r))[(0:Nat)]?=some a.ds:=rfl
 obtain⟨es,hes⟩:∃es,es=B2 (a::r):=⟨_,rfl⟩
 rw[<- hes] at h1 hm hg0 ⊢
 repeat' first|refine st ?_|((with_reducible apply A4);conv=>whnf)|((with_reducible first|apply E9|apply E8);(·exact A4p _))|refine⟨λ_=>?_,λ_=>?_⟩|fail
 refine M5 A6 D2x D1c (λ(i:Nat) (t:Int)=>[.d (eI t),.d (eI (i+1))]) (λi t=>[.cells [.d (eI 0),.d (eI 0),.d (.str [])]]) (λi t=>i<=r.length/\t=(r.take i).foldl (U9 op) (L8 a)) (λi _=>r.length-i) 0 (L8 a) rfl rfl rfl rfl (λ_ _ _=>⟨rfl,rfl⟩) rfl ⟨by omega,rfl⟩ ?_
 repeat' first|refine st ?_|((with_reducible apply A4);conv=>whnf)|refine⟨λ_=>?_,λ_=>?_⟩|fail
 intro i t ⟨h2,h3⟩
 cases hx:r[i]? with
 |some v=>
  have hlt:=(B3.1 hx).1
  have hg:es[((i:Int)+1).toNat]?=some v.ds:=by
   rw[hes,show((i:Int)+1).toNat=i+1 by omega]
   exact m6 (l:=a::r) (by simpa using hx)
  by_cases h5:op=5
  ·repeat' first|refine st ?_|((with_reducible apply A4);conv=>whnf)|((with_reducible first|apply E9|apply E8);(·first|exact A4p _|exact C7u _ _))|refine⟨λ_=>?_,λ_=>?_⟩|fail
   refine⟨i+1,_,rfl,rfl,rfl,by omega,by omega,?_⟩
   rw[A9u _ _ _ _ _ hx,<- h3,U9,if_pos h5]
  ·repeat' first|refine st ?_|((with_reducible apply A4);conv=>whnf)|((with_reducible first|apply E9|apply E8);(·first|exact A4p _|exact C7x _ _))|refine⟨λ_=>?_,λ_=>?_⟩|fail
   refine⟨i+1,_,rfl,rfl,rfl,by omega,by omega,?_⟩
   rw[A9u _ _ _ _ _ hx,<- h3,U9,if_neg h5]
 |none=>
  have hge:=F2.1 hx
  rw[H0 hge] at h3
  subst h3
  repeat' first|refine st ?_|((with_reducible apply A4);conv=>whnf)|((with_reducible first|apply E9|apply E8);(·exact B0N _))|refine⟨λ_=>?_,λ_=>?_⟩|fail
  rfl
theorem C6t(a:Vl)(r:List Vl)(hl:r.length<=1073741824):Pure Tryz.prog B1C [.d (eI 4),.d (.sl (B2 (a::r)))] (eV (O9 (A02 (L8 a)))):=by
 refine B5b.go A6 rfl ?_
 have h1:(B2 (a::r)).length=r.length+1:=by rw[Q2];rfl
 have hm:=Q3 (a::r)
 have hg0:(B2 (a::r))[(0:Nat)]?=some a.ds:=rfl
 obtain⟨es,hes⟩:∃es,es=B2 (a::r):=⟨_,rfl⟩
 rw[<- hes] at h1 hm hg0 ⊢
 repeat' first|refine st ?_|((with_reducible apply A4);conv=>whnf)|((with_reducible first|apply E9|apply E8);(·first|exact A3A _|exact B0P _|exact A8k _))|refine⟨λ_=>?_,λ_=>?_⟩|fail
theorem C6s(op:Int)(h56:op=5\/op=6)(a:Vl)(r:List Vl)(hl:r.length<=1073741824):Pure Tryz.prog B1C [.d (eI op),.d (.sl (B2 (a::r)))] (eV (O9 (lgF op a r))):=by
 refine B5b.go A6 rfl ?_
 have h1:(B2 (a::r)).length=r.length+1:=by rw[Q2];rfl
 have hm:=Q3 (a::r)
 have hg0:(B2 (a::r))[(0:Nat)]?=some a.ds:=rfl
 have hcut:((B2 (a::r)).drop (1:Int).toNat).take (((B2 (a::r)).length:Int).toNat-(1:Int).toNat)=B2 r:=by
  rw[h1,show(1:Int).toNat=1 from rfl,show(((r.length+1:Nat):Int)).toNat-1=r.length by omega]
  show((B2 (a::r)).drop 1).take r.length=_
  have:(B2 (a::r)).drop 1=B2 r:=rfl
  rw[this,H0 (by rw[Q2];omega)]
 obtain⟨es,hes⟩:∃es,es=B2 (a::r):=⟨_,rfl⟩
 rw[<- hes] at h1 hm hg0 hcut ⊢
 obtain⟨es2,hes2⟩:∃es2,es2=(es.drop (1:Int).toNat).take ((es.length:Int).toNat-(1:Int).toNat):=⟨_,rfl⟩
 rw[<- hes2] at hcut
 have h12:es2.length=r.length:=by rw[hcut,Q2]
 have hm2:∀e∈es2,e.length=3:=by rw[hcut];exact Q3 r
 rcases h56 with rfl|rfl
 ·repeat' first|refine st ?_|((with_reducible apply A4);conv=>whnf)|((with_reducible first|apply E9|apply E8);(·exact A3A _))|refine⟨λ_=>?_,λ_=>?_⟩|fail
  all_goals (rw[<- hes2])
  repeat' first|refine st ?_|((with_reducible apply A4);conv=>whnf)|((with_reducible first|apply E9|apply E8);(·exact A3A _))|refine⟨λ_=>?_,λ_=>?_⟩|fail
  refine M5 A6 D36 D1L (λ(i:Nat) (t:Int)=>[.d (eI t),.d (eI i)]) (λi t=>[.cells [.d (eI 0),.d (eI 0),.d (.str [])]]) (λi t=>i<=r.length/\t=(r.take i).foldl (U9 5) (L8 a)) (λi _=>r.length-i) 0 (L8 a) rfl rfl rfl rfl (λ_ _ _=>⟨rfl,rfl⟩) rfl ⟨by omega,rfl⟩ ?_
  repeat' first|refine st ?_|((with_reducible apply A4);conv=>whnf)|refine⟨λ_=>?_,λ_=>?_⟩|fail
  intro i t ⟨h2,h3⟩
  cases hx:r[i]? with
  |some v=>
   have hlt:=(B3.1 hx).1
   have hg:es2[(i:Int).toNat]?=some v.ds:=by rw[hcut];exact m6 (l:=r) hx
   repeat' first|refine st ?_|((with_reducible apply A4);conv=>whnf)|((with_reducible first|apply E9|apply E8);(·first|exact A3A _|exact C80 _ _))|refine⟨λ_=>?_,λ_=>?_⟩|fail
   refine⟨i+1,_,rfl,rfl,rfl,by omega,by omega,?_⟩
   rw[A9u _ _ _ _ _ hx,<- h3];rfl
  |none=>
   have hge:=F2.1 hx
   rw[H0 hge] at h3
   subst h3
   repeat' first|refine st ?_|((with_reducible apply A4);conv=>whnf)|((with_reducible first|apply E9|apply E8);(·exact A8k _))|refine⟨λ_=>?_,λ_=>?_⟩|fail
   rfl
 ·repeat' first|refine st ?_|((with_reducible apply A4);conv=>whnf)|((with_reducible first|apply E9|apply E8);(·exact A3A _))|refine⟨λ_=>?_,λ_=>?_⟩|fail
  all_goals (rw[<- hes2])
  repeat' first|refine st ?_|((with_reducible apply A4);conv=>whnf)|((with_reducible first|apply E9|apply E8);(·exact A3A _))|refine⟨λ_=>?_,λ_=>?_⟩|fail
  refine M5 A6 D37 D1M (λ(i:Nat) (t:Int)=>[.d (eI t),.d (eI i)]) (λi t=>[.cells [.d (eI 0),.d (eI 0),.d (.str [])]]) (λi t=>i<=r.length/\t=(r.take i).foldl (U9 6) (L8 a)) (λi _=>r.length-i) 0 (L8 a) rfl rfl rfl rfl (λ_ _ _=>⟨rfl,rfl⟩) rfl ⟨by omega,rfl⟩ ?_
  repeat' first|refine st ?_|((with_reducible apply A4);conv=>whnf)|refine⟨λ_=>?_,λ_=>?_⟩|fail
  intro i t ⟨h2,h3⟩
  cases hx:r[i]? with
  |some v=>
   have hlt:=(B3.1 hx).1
   have hg:es2[(i:Int).toNat]?=some v.ds:=by rw[hcut];exact m6 (l:=r) hx
   repeat' first|refine st ?_|((with_reducible apply A4);conv=>whnf)|((with_reducible first|apply E9|apply E8);(·first|exact A3A _|exact C83 _ _))|refine⟨λ_=>?_,λ_=>?_⟩|fail
   refine⟨i+1,_,rfl,rfl,rfl,by omega,by omega,?_⟩
   rw[A9u _ _ _ _ _ hx,<- h3];rfl
  |none=>
   have hge:=F2.1 hx
   rw[H0 hge] at h3
   subst h3
   repeat' first|refine st ?_|((with_reducible apply A4);conv=>whnf)|((with_reducible first|apply E9|apply E8);(·exact A8k _))|refine⟨λ_=>?_,λ_=>?_⟩|fail
   rfl
end Go.Proofs
end
section
namespace Go.Proofs
open Go.Bi
def V3(l:List Vl):List UInt8:=(l.map Vl.s).flatten
theorem E2b{l:List Vl}{i:Nat}{v:Vl}(h:l[i]?=some v):V3 (l.take (i+1))=V3 (l.take i)++v.s:=by
 unfold V3
 rw[L5,h];simp
theorem C5d(l:List Vl)(hs:∀v∈l,v.s.length<=200):(V3 l).length<=200*l.length:=by
 induction l with
 |nil=>simp[V3]
 |cons v l ih=>
  have h1:=hs v (by simp)
  have h2:=ih λv hv=>hs v (by simp[hv])
  have:V3 (v::l)=v.s++V3 l:=by simp[V3]
  rw[this,H3,H7]
  omega
def Z4(op:Int)(l:List Vl):Vl:=if W1 l 2 then (if op=20 then Y4 (V3 l).length else A67 (V3 l)) else C5
theorem B4d(op:Int)(l:List Vl)(hl:l.length<=1073741824)(hs:∀v∈l,v.s.length<=200):Pure Tryz.prog C0i [.d (eI op),.d (.sl (B2 l))] (eV (Z4 op l)):=by
 refine C9S.go A6 rfl ?_
 have h1:=Q2 l
 have hm:=Q3 l
 have hT:=C84 (V3 l) (by have:=C5d l hs;omega)
 repeat' first|refine st ?_|((with_reducible apply A4);conv=>whnf)|refine⟨λ_=>?_,λ_=>?_⟩|fail
 refine A6b A6 D39 D1O (λ(i:Nat) (n:Int) (s:List UInt8)=>[.d (eI n),.d (.str s),.d (eI i)]) (λi n s=>[.cells [.d (eI 0),.d (eI 0),.d (.str [])]]) (λi n s=>i<=l.length/\W1 (l.take i) 2=true/\s=V3 (l.take i)/\n=s.length) (λi _ _=>l.length-i) 0 0 [] rfl rfl rfl rfl (λ_ _ _ _=>⟨rfl,rfl⟩) rfl ⟨by omega,rfl,rfl,rfl⟩ ?_
 repeat' first|refine st ?_|((with_reducible apply A4);conv=>whnf)|refine⟨λ_=>?_,λ_=>?_⟩|fail
 intro i n s ⟨h2,h3,h4,h5⟩
 have h6:s.length<=200*1073741824:=by
  rw[h4]
  have:=C5d (l.take i) λv hv=>hs v (A2Y hv)
  have h7:(l.take i).length<=1073741824:=by rw[L6];omega
  omega
 cases hx:l[i]? with
 |some v=>
  have hlt:=(B3.1 hx).1
  have hg:=m6 hx
  have hv:=hs v (C3 hx)
  by_cases hk:v.k=2
  ·repeat' first|refine st ?_|((with_reducible apply A4);conv=>whnf)|refine⟨λ_=>?_,λ_=>?_⟩|fail
   refine⟨i+1,_,_,rfl,rfl,rfl,by omega,by omega,?_,?_,?_⟩
   ·rw[W1,A4w hx];rw[W1] at h3;rw[h3,decide_eq_true hk];rfl
   ·rw[E2b hx,h4]
   ·rw[h5];simp
  ·repeat' first|refine st ?_|((with_reducible apply A4);conv=>whnf)|((with_reducible first|apply E9|apply E8);(·exact w6))|refine⟨λ_=>?_,λ_=>?_⟩|fail
   have:W1 l 2=false:=A3L hx (decide_eq_false hk)
   rw[Z4,this];rfl
 |none=>
  have hge:=F2.1 hx
  rw[H0 hge] at h3 h4
  unfold Z4
  rw[h3,if_pos rfl]
  by_cases h20:op=20
  ·rw[if_pos h20,<- h4,<- h5]
   repeat' first|refine st ?_|((with_reducible apply A4);conv=>whnf)|((with_reducible first|apply E9|apply E8);(·exact A2U _))|refine⟨λ_=>?_,λ_=>?_⟩|fail
  ·rw[if_neg h20]
   subst h4
   repeat' first|refine st ?_|((with_reducible apply A4);conv=>whnf)|refine⟨λ_=>?_,λ_=>?_⟩|fail
theorem C74(a b:Vl)(ha:a.s.length<=200)(hb:b.s.length<=200):Pure Tryz.prog B1t [.d (eI 19),.d (.sl (B2 [a,b]))] (eV (Z4 19 [a,b])):=by
 refine B53.go A6 rfl ?_
 have hA:=A6d [a,b] (by simp) (.sl (B2 [a,b])) A0y 2
 have hT:=C7z (a.s++b.s) (by simp;omega)
 have e:Z4 19 [a,b]=if W1 [a,b] 2 then A67 (a.s++b.s) else C5:=by unfold Z4 V3;simp
 rw[e]
 have hm:=Q3 [a,b]
 have hg0:(B2 [a,b])[(0:Nat)]?=some a.ds:=rfl
 have hg1:(B2 [a,b])[(1:Nat)]?=some b.ds:=rfl
 have hln:(B2 [a,b]).length=2:=rfl
 obtain⟨es,hes⟩:∃es,es=B2 [a,b]:=⟨_,rfl⟩
 rw[<- hes] at hA hm hg0 hg1 hln ⊢
 cases hk:W1 [a,b] 2 with
 |true=>
  rw[hk] at hA
  repeat' first|refine st ?_|((with_reducible apply A4);conv=>whnf)|refine⟨λ_=>?_,λ_=>?_⟩|fail
  all_goals rfl
 |false=>
  rw[hk] at hA
  repeat' first|refine st ?_|((with_reducible apply A4);conv=>whnf)|((with_reducible first|apply E9|apply E8);(·exact S2))|refine⟨λ_=>?_,λ_=>?_⟩|fail
  all_goals rfl
theorem C75(a:Vl)(ha:a.s.length<=200):Pure Tryz.prog B1t [.d (eI 20),.d (.sl (B2 [a]))] (eV (Z4 20 [a])):=by
 refine B53.go A6 rfl ?_
 have hA:=A6d [a] (by simp) (.sl (B2 [a])) A0y 2
 have e:Z4 20 [a]=if W1 [a] 2 then Y4 a.s.length else C5:=by unfold Z4 V3;simp
 rw[e]
 have hm:=Q3 [a]
 have hg0:(B2 [a])[(0:Nat)]?=some a.ds:=rfl
 have hln:(B2 [a]).length=1:=rfl
 obtain⟨es,hes⟩:∃es,es=B2 [a]:=⟨_,rfl⟩
 rw[<- hes] at hA hm hg0 hln ⊢
 cases hk:W1 [a] 2 with
 |true=>
  rw[hk] at hA
  repeat' first|refine st ?_|((with_reducible apply A4);conv=>whnf)|((with_reducible first|apply E9|apply E8);(·exact A0C _))|refine⟨λ_=>?_,λ_=>?_⟩|fail
  all_goals rfl
 |false=>
  rw[hk] at hA
  repeat' first|refine st ?_|((with_reducible apply A4);conv=>whnf)|((with_reducible first|apply E9|apply E8);(·exact S2))|refine⟨λ_=>?_,λ_=>?_⟩|fail
  all_goals rfl
def A83(a:Int):Vl:=Y4 (0-a)
def vAr(op a b:Int):Vl:=if op=18 then A83 a else A3p op a b
def s6(op:Int)(l:List Vl):Vl:=if W1 l 1 then vAr op (l.getD 0 C5).n (l.getD (l.length-1) C5).n else C5
theorem B48(op:Int)(l:List Vl)(a b:Vl)(ha:l[0]?=some a)(hb:l[l.length-1]?=some b)(hl:l.length<=1073741824)(hn:∀v∈l,nSm v.n)(hop:13<=op/\op<=18):Pure Tryz.prog C0a [.d (eI op),.d (.sl (B2 l))] (eV (s6 op l)):=by
 refine C9G.go A6 rfl ?_
 have h1:=Q2 l
 have hm:=Q3 l
 have hlp:=(B3.1 ha).1
 have hg0:(B2 l)[(0:Nat)]?=some a.ds:=m6 ha
 have hgz:(B2 l)[(((B2 l).length:Int)-1).toNat]?=some b.ds:=by
  rw[h1,show((l.length:Int)-1).toNat=l.length-1 by omega]
  exact m6 hb
 have na:=hn a (C3 ha)
 have nb:=hn b (C3 hb)
 have hP:=C6v a.n b.n na nb
 have e:s6 op l=if W1 l 1 then vAr op a.n b.n else C5:=by
  unfold s6
  rw[H6,H6,ha,hb];rfl
 rw[e]
 obtain⟨na1,na2⟩:=na
 obtain⟨nb1,nb2⟩:=nb
 repeat' first|refine st ?_|((with_reducible apply A4);conv=>whnf)|refine⟨λ_=>?_,λ_=>?_⟩|fail
 refine J5 A6 D33 D1I (λ(i:Nat)=>[.d (eI i)]) (λi=>[.cells [.d (eI 0),.d (eI 0),.d (.str [])]]) (λi=>i<=l.length/\W1 (l.take i) 1=true) (λi=>l.length-i) 0 rfl rfl rfl rfl (λ_ _=>⟨rfl,rfl⟩) rfl ⟨by omega,rfl⟩ ?_
 repeat' first|refine st ?_|((with_reducible apply A4);conv=>whnf)|refine⟨λ_=>?_,λ_=>?_⟩|fail
 intro i ⟨h2,h3⟩
 cases hx:l[i]? with
 |some v=>
  have hlt:=(B3.1 hx).1
  have hg:=m6 hx
  by_cases hk:v.k=1
  ·repeat' first|refine st ?_|((with_reducible apply A4);conv=>whnf)|refine⟨λ_=>?_,λ_=>?_⟩|fail
   refine⟨i+1,rfl,rfl,rfl,by omega,by omega,?_⟩
   rw[W1,A4w hx];rw[W1] at h3;rw[h3,decide_eq_true hk];rfl
  ·repeat' first|refine st ?_|((with_reducible apply A4);conv=>whnf)|((with_reducible first|apply E9|apply E8);(·exact w6))|refine⟨λ_=>?_,λ_=>?_⟩|fail
   have:W1 l 1=false:=A3L hx (decide_eq_false hk)
   rw[this];rfl
 |none=>
  have hge:=F2.1 hx
  rw[H0 hge] at h3
  rw[h3,if_pos rfl]
  unfold vAr
  by_cases h18:op=18
  ·rw[if_pos h18]
   subst h18
   repeat' first|refine st ?_|((with_reducible apply A4);conv=>whnf)|((with_reducible first|apply E9|apply E8);(·exact A2U _))|refine⟨λ_=>?_,λ_=>?_⟩|fail
   rfl
  rw[if_neg h18]
  by_cases h13:op=13
  ·subst h13
   repeat' first|refine st ?_|((with_reducible apply A4);conv=>whnf)|((with_reducible first|apply E9|apply E8);(·exact A2U _))|refine⟨λ_=>?_,λ_=>?_⟩|fail
   rfl
  by_cases h14:op=14
  ·subst h14
   repeat' first|refine st ?_|((with_reducible apply A4);conv=>whnf)|((with_reducible first|apply E9|apply E8);(·exact A2U _))|refine⟨λ_=>?_,λ_=>?_⟩|fail
   rfl
  by_cases h15:op=15
  ·subst h15
   repeat' first|refine st ?_|((with_reducible apply A4);conv=>whnf)|refine⟨λ_=>?_,λ_=>?_⟩|fail
   rfl
  unfold A3p
  rw[if_neg h13,if_neg h14,if_neg h15]
  by_cases h0:b.n=0
  ·rw[if_pos h0]
   repeat' first|refine st ?_|((with_reducible apply A4);conv=>whnf)|((with_reducible first|apply E9|apply E8);(·exact w6))|refine⟨λ_=>?_,λ_=>?_⟩|fail
  rw[if_neg h0]
  by_cases h16:op=16
  ·rw[if_pos h16]
   repeat' first|refine st ?_|((with_reducible apply A4);conv=>whnf)|((with_reducible first|apply E9|apply E8);(·exact A2U _))|refine⟨λ_=>?_,λ_=>?_⟩|fail
   rfl
  ·rw[if_neg h16]
   repeat' first|refine st ?_|((with_reducible apply A4);conv=>whnf)|((with_reducible first|apply E9|apply E8);(·exact A2U _))|refine⟨λ_=>?_,λ_=>?_⟩|fail
def A4J(a b:Vl):Bool:=decide (a.k=1)&&decide (b.k=1)
theorem B4b(a b:Vl):Pure Tryz.prog C0e [eV a,eV b] (.tup [eP a.n b.n,.d (.bool (A4J a b))]):=by
 refine C9O.go A6 rfl ?_
 unfold A4J
 by_cases ha:a.k=1
 ·rw[decide_eq_true ha]
  repeat' first|refine st ?_|((with_reducible apply A4);conv=>whnf)|refine⟨λ_=>?_,λ_=>?_⟩|fail
  all_goals rfl
 ·rw[decide_eq_false ha]
  repeat' first|refine st ?_|((with_reducible apply A4);conv=>whnf)|refine⟨λ_=>?_,λ_=>?_⟩|fail
  all_goals rfl
def A0f(r:Int)(a b c d:Vl):Vl:=if W1 [a,b,c,d] 1&&(T1 a.n b.n c.n d.n).2 then T4 (decide ((T1 a.n b.n c.n d.n).1=r)) else C5
theorem D9e(a b c d:Vl):W1 [a,b,c,d] 1=(A4J a b&&A4J c d):=by simp[W1,A4J,Bool.and_assoc]
theorem C6w(r:Int)(a b c d:Vl):Pure Tryz.prog C0g [.d (eI r),.d (.sl (B2 [a,b,c,d]))] (eV (A0f r a b c d)):=by
 refine C9Q.go A6 rfl ?_
 have hm:=Q3 [a,b,c,d]
 have hg0:(B2 [a,b,c,d])[(0:Nat)]?=some a.ds:=rfl
 have hg1:(B2 [a,b,c,d])[(1:Nat)]?=some b.ds:=rfl
 have hg2:(B2 [a,b,c,d])[(2:Nat)]?=some c.ds:=rfl
 have hg3:(B2 [a,b,c,d])[(3:Nat)]?=some d.ds:=rfl
 have hln:(B2 [a,b,c,d]).length=4:=rfl
 have hR:=C6c a.n b.n c.n d.n
 have hP:=B4b a b
 have hQ:=B4b c d
 unfold A0f
 rw[D9e]
 obtain⟨es,hes⟩:∃es,es=B2 [a,b,c,d]:=⟨_,rfl⟩
 rw[<- hes] at hm hg0 hg1 hg2 hg3 hln ⊢
 cases h1:A4J a b with
 |false=>
  rw[h1] at hP
  repeat' first|refine st ?_|((with_reducible apply A4);conv=>whnf)|((with_reducible first|apply E9|apply E8);(·exact w6))|refine⟨λ_=>?_,λ_=>?_⟩|fail
  all_goals rfl
 |true=>
  rw[h1] at hP
  cases h2:A4J c d with
  |false=>
   rw[h2] at hQ
   repeat' first|refine st ?_|((with_reducible apply A4);conv=>whnf)|((with_reducible first|apply E9|apply E8);(·exact w6))|refine⟨λ_=>?_,λ_=>?_⟩|fail
   all_goals rfl
  |true=>
   rw[h2] at hQ
   cases h3:(T1 a.n b.n c.n d.n).2 with
   |false=>
    rw[h3] at hR
    repeat' first|refine st ?_|((with_reducible apply A4);conv=>whnf)|((with_reducible first|apply E9|apply E8);(·exact w6))|refine⟨λ_=>?_,λ_=>?_⟩|fail
    all_goals rfl
   |true=>
    rw[h3] at hR
    repeat' first|refine st ?_|((with_reducible apply A4);conv=>whnf)|((with_reducible first|apply E9|apply E8);(·exact A3z _))|refine⟨λ_=>?_,λ_=>?_⟩|fail
    all_goals rfl
theorem C71(r:Int)(a b c d:Vl):Pure Tryz.prog B9C [.d (eI r),.d (.sl (B2 [a,b,c,d]))] (eV (A0f r a b c d)):=by
 refine C94.go A6 rfl ?_
 have hm:=Q3 [a,b,c,d]
 have hg0:(B2 [a,b,c,d])[(0:Nat)]?=some a.ds:=rfl
 have hg1:(B2 [a,b,c,d])[(1:Nat)]?=some b.ds:=rfl
 have hg2:(B2 [a,b,c,d])[(2:Nat)]?=some c.ds:=rfl
 have hg3:(B2 [a,b,c,d])[(3:Nat)]?=some d.ds:=rfl
 have hln:(B2 [a,b,c,d]).length=4:=rfl
 have hR:=C7J a.n b.n c.n d.n
 have hA:=A6d [a,b,c,d] (by simp) (.sl (B2 [a,b,c,d])) A0y 1
 unfold A0f
 obtain⟨es,hes⟩:∃es,es=B2 [a,b,c,d]:=⟨_,rfl⟩
 rw[<- hes] at hm hg0 hg1 hg2 hg3 hln hA ⊢
 cases h1:W1 [a,b,c,d] 1 with
 |false=>
  rw[h1] at hA
  repeat' first|refine st ?_|((with_reducible apply A4);conv=>whnf)|((with_reducible first|apply E9|apply E8);(·exact S2))|refine⟨λ_=>?_,λ_=>?_⟩|fail
  all_goals rfl
 |true=>
  rw[h1] at hA
  cases h3:(T1 a.n b.n c.n d.n).2 with
  |false=>
   rw[h3] at hR
   repeat' first|refine st ?_|((with_reducible apply A4);conv=>whnf)|((with_reducible first|apply E9|apply E8);(·exact S2))|refine⟨λ_=>?_,λ_=>?_⟩|fail
   all_goals rfl
  |true=>
   rw[h3] at hR
   repeat' first|refine st ?_|((with_reducible apply A4);conv=>whnf)|((with_reducible first|apply E9|apply E8);(·exact A8h _))|refine⟨λ_=>?_,λ_=>?_⟩|fail
   all_goals rfl
end Go.Proofs
end
section
namespace Go.Proofs
open Go.Bi
def V8:List Vl->Vl
 |[]=>C5
 |v::l=>if v.k=0 then V8 l else v
def T8(op n:Int)(v:Vl)(l:List Vl)(row:List Vl):Vl:=
 if op=1 then v
 else if op=2 then b7 row n
 else if op=22 then (if L8 (l.getD 0 C5)=2 then l.getD 1 C5 else l.getD 2 C5)
 else if op=4 then O9 (A02 (L8 (l.getD 0 C5)))
 else if op=5\/op=6 then O9 (lgF op (l.getD 0 C5) (l.drop 1))
 else if op=21 then T4 (decide ((l.getD 0 C5).k=0))
 else if op=23 then V8 l
 else if op=24 then A0f n (l.getD 0 C5) (l.getD 1 C5) (l.getD 2 C5) (l.getD 3 C5)
 else if op=19\/op=20 then Z4 op l
 else if 13<=op/\op<=18 then s6 op l
 else O9 (vCp op (l.getD 0 C5) (l.getD 1 C5))
mutual
def ev(row:List Vl):Ex->Vl
 |.mk op n v name nl args=>if J7 op n v name args.length then T8 op n v (evs row args) row else C5
def evs(row:List Vl):List Ex->List Vl
 |[]=>[]
 |e::es=>ev row e::evs row es
end
theorem C2K(row:List Vl):∀l,evs row l=l.map (ev row)
 |[]=>by simp[evs]
 |e::es=>by simp[evs,C2K row es]
theorem m7(row:List Vl)(op n:Int)(v:Vl)(name:List UInt8)(nl:Bool)(args:List Ex):ev row (.mk op n v name nl args)=if J7 op n v name args.length then T8 op n v (args.map (ev row)) row else C5:=by
 rw[ev,C2K]
theorem A5q{op:Int}{k:Nat}(h:(U7 op k).1=true):((op=1\/op=2)/\k=0)\/((op=4\/op=18\/op=20\/op=21)/\k=1)\/((7<=op/\op<=17\/op=19)/\k=2)\/((op=5\/op=6)/\2<=k)\/(op=22/\k=3)\/(op=23/\1<=k)\/(op=24/\k=4):=by
 unfold U7 at h
 repeat' split at h
 all_goals (simp at h)
 all_goals omega
theorem A41{op n:Int}{v:Vl}{name:List UInt8}{k:Nat}(h:J7 op n v name k=true):(U7 op k).1=true:=by
 unfold J7 at h
 simp only[J9] at h
 exact h.1.1
theorem C35{n:Int}{v:Vl}{name:List UInt8}{k:Nat}(h:J7 1 n v name k=true):N5 v=true:=by
 unfold J7 at h
 simp only[J9,if_true] at h
 exact h.2.2
theorem A4l:N5 C5=true:=by decide
theorem B3R(v:Vl):N5 (Y5 v)=true:=by
 unfold Y5
 split
 ·assumption
 ·exact A4l
theorem B0l(b:Bool):N5 (T4 b)=true:=by cases b<;>decide
theorem B3Q(t:Int):N5 (O9 t)=true:=by
 unfold O9
 split
 ·exact B0l _
 ·split
  ·exact B0l _
  ·exact A4l
theorem C3j{l:List Vl}(h:∀v∈l,N5 v=true)(i:Nat):N5 (l.getD i C5)=true:=by
 rw[H6]
 cases hx:l[i]? with
 |none=>exact A4l
 |some v=>exact h v (C3 hx)
theorem C2c:∀{l:List Vl},(∀v∈l,N5 v=true)->N5 (V8 l)=true
 |[],_=>A4l
 |v::l,h=>by
  unfold V8
  split
  ·exact C2c λx hx=>h x (by simp[hx])
  ·exact h v (by simp)
theorem D8J{op n:Int}{v:Vl}{l row:List Vl}(hl:∀v∈l,N5 v=true)(h1:op=1->N5 v=true):N5 (T8 op n v l row)=true:=by
 unfold T8
 split
 ·rename_i h;exact h1 h
 split
 ·exact B3R _
 split
 ·split
  ·exact C3j hl 1
  ·exact C3j hl 2
 split
 ·exact B3Q _
 split
 ·exact B3Q _
 split
 ·exact B0l _
 split
 ·exact C2c hl
 split
 ·unfold A0f
  split
  ·exact B0l _
  ·exact A4l
 split
 ·unfold Z4
  split
  ·split<;>exact B3R _
  ·exact A4l
 split
 ·unfold s6 vAr A83 A3p vPr
  repeat' split
  all_goals first|exact B3R _|exact A4l
 ·exact B3Q _
theorem A9m(row:List Vl):∀e,N5 (ev row e)=true:=by
 refine Ex.ind λop n v name nl args ih=>?_
 rw[m7]
 split
 ·rename_i h
  refine D8J (λw hw=>?_) (λe=>?_)
  ·obtain⟨a,ha,rfl⟩:=D9.1 hw
   exact ih a ha
  ·subst e;exact C35 h
 ·exact A4l
theorem C2J(row:List Vl)(e:Ex):(ev row e).s.length<=200:=C5s (A9m row e)
theorem C2M(row:List Vl)(args:List Ex):∀v∈args.map (ev row),v.s.length<=200:=λv hv=>by
 obtain⟨a,_,rfl⟩:=D9.1 hv
 exact C2J row a
theorem C2L(row:List Vl)(args:List Ex):∀v∈args.map (ev row),nSm v.n:=λv hv=>by
 obtain⟨a,_,rfl⟩:=D9.1 hv
 exact E2y (A9m row a)
abbrev z3:List D:=[eI 0,eI 0,.str []]
def Lv(row:List Vl)(args:List Ex)(i:Nat):List (List D):=B2 ((args.take i).map (ev row))++List.replicate (args.length-i) z3
theorem D3w(row:List Vl)(args:List Ex)(i:Nat)(h:i<=args.length):(Lv row args i).length=args.length:=by
 unfold Lv
 rw[H3,Q2,D3,L6,A1E]
 omega
theorem D3x(row:List Vl)(args:List Ex)(i:Nat):∀e∈Lv row args i,e.length=3:=by
 intro e he
 rcases L9.1 he with h|h
 ·exact Q3 _ e h
 ·rw[List.eq_of_mem_replicate h];rfl
theorem D3v{row:List Vl}{args:List Ex}{i:Nat}(h:i<args.length):(Lv row args i)[i]?=some z3:=by
 unfold Lv
 rw[W8 (by rw[Q2,D3,L6];omega)]
 rw[Q2,D3,L6,List.getElem?_replicate,if_pos (by omega)]
theorem D3y{row:List Vl}{args:List Ex}{i:Nat}{x:Ex}(h:args[i]?=some x):(Lv row args i).set i (ev row x).ds=Lv row args (i+1):=by
 have hlt:=(B3.1 h).1
 have hl:(B2 ((args.take i).map (ev row))).length=i:=by rw[Q2,D3,L6];omega
 unfold Lv
 rw[List.set_append_right _ _ (by omega),hl,Nat.sub_self]
 rw[show args.length-i=(args.length-(i+1))+1 by omega,List.replicate_succ,List.set_cons_zero]
 rw[L5,h]
 simp[B2]
theorem D3u{row:List Vl}{args:List Ex}{i:Nat}(h:args.length<=i):Lv row args i=B2 (args.map (ev row)):=by
 unfold Lv
 rw[H0 h,show args.length-i=0 by omega]
 simp
theorem D3z(row:List Vl)(args:List Ex)(n:Nat)(h:n=args.length):List.replicate ((n:Int)).toNat z3=Lv row args 0:=by
 unfold Lv
 subst h
 simp[B2]
end Go.Proofs
end
section
namespace Go.Proofs
open Go.Bi
theorem D8F(op n:Int)(v:Vl)(l row:List Vl)(h:op=1\/op=2)(hv:op=1->N5 v=true):T8 op n v l row=vLf op n v row:=by
 rcases h with rfl|rfl
 ·unfold T8 vLf Y5
  simp[hv rfl]
 ·rfl
theorem C6U(l:List Vl)(a b c:Vl)(h:l=[a,b,c]):Pure Tryz.prog B1q [.d (eI 22),.d (.sl (B2 l))] (eV (if L8 a=2 then b else c)):=by
 refine B51.go A6 rfl ?_
 subst h
 have hm:=Q3 [a,b,c]
 have hg0:(B2 [a,b,c])[(0:Nat)]?=some a.ds:=rfl
 have hg1:(B2 [a,b,c])[(1:Nat)]?=some b.ds:=rfl
 have hg2:(B2 [a,b,c])[(2:Nat)]?=some c.ds:=rfl
 have hln:(B2 [a,b,c]).length=3:=rfl
 obtain⟨es,hes⟩:∃es,es=B2 [a,b,c]:=⟨_,rfl⟩
 rw[<- hes] at hm hg0 hg1 hg2 hln ⊢
 by_cases ht:L8 a=2
 ·rw[if_pos ht]
  repeat' first|refine st ?_|((with_reducible apply A4);conv=>whnf)|((with_reducible first|apply E9|apply E8);(·exact A4p _))|refine⟨λ_=>?_,λ_=>?_⟩|fail
  all_goals rfl
 ·rw[if_neg ht]
  repeat' first|refine st ?_|((with_reducible apply A4);conv=>whnf)|((with_reducible first|apply E9|apply E8);(·exact A4p _))|refine⟨λ_=>?_,λ_=>?_⟩|fail
  all_goals rfl
theorem D7S{l:List Vl}{i:Nat}{v:Vl}(h:l[i]?=some v):V8 (l.drop i)=if v.k=0 then V8 (l.drop (i+1)) else v:=by
 obtain⟨hlt,he⟩:=B3.1 h
 rw[R4 hlt,he];rfl
theorem C6V(l:List Vl)(hl:l.length<=1073741824):Pure Tryz.prog B1q [.d (eI 23),.d (.sl (B2 l))] (eV (V8 l)):=by
 refine B51.go A6 rfl ?_
 have hm:=Q3 l
 have hLl:=Q2 l
 repeat' first|refine st ?_|((with_reducible apply A4);conv=>whnf)|refine⟨λ_=>?_,λ_=>?_⟩|fail
 refine J5 A6 D2v D1a (λ(i:Nat)=>[.d (eI i)]) (λi=>[.cells [.d (eI 0),.d (eI 0),.d (.str [])]]) (λi=>i<=l.length/\V8 l=V8 (l.drop i)) (λi=>l.length-i) 0 rfl rfl rfl rfl (λ_ _=>⟨rfl,rfl⟩) rfl ⟨by omega,rfl⟩ ?_
 repeat' first|refine st ?_|((with_reducible apply A4);conv=>whnf)|refine⟨λ_=>?_,λ_=>?_⟩|fail
 intro j ⟨h6,h7⟩
 cases hy:l[j]? with
 |some w=>
  have hlt2:=(B3.1 hy).1
  have hg2:=m6 hy
  rw[D7S hy] at h7
  by_cases hk:w.k=0
  ·rw[if_pos hk] at h7
   repeat' first|refine st ?_|((with_reducible apply A4);conv=>whnf)|refine⟨λ_=>?_,λ_=>?_⟩|fail
   exact⟨j+1,rfl,rfl,rfl,by omega,by omega,h7⟩
  ·rw[if_neg hk] at h7
   rw[h7]
   repeat' first|refine st ?_|((with_reducible apply A4);conv=>whnf)|refine⟨λ_=>?_,λ_=>?_⟩|fail
   all_goals rfl
 |none=>
  have hge2:=F2.1 hy
  rw[R5 hge2] at h7
  rw[h7]
  repeat' first|refine st ?_|((with_reducible apply A4);conv=>whnf)|((with_reducible first|apply E9|apply E8);(·exact S2))|refine⟨λ_=>?_,λ_=>?_⟩|fail
  all_goals rfl
def Av(row:List Vl)(args:List Ex)(i:Nat):List (List D):=B2 ((args.take i).map (ev row))
theorem C60(row:List Vl)(args:List Ex)(i:Nat)(h:i<=args.length):(Av row args i).length=i:=by
 unfold Av
 rw[Q2,D3,L6]
 omega
theorem C61{row:List Vl}{args:List Ex}{i:Nat}{x:Ex}(h:args[i]?=some x):Av row args i++[(ev row x).ds]=Av row args (i+1):=by
 unfold Av
 rw[L5,h]
 simp[B2]
theorem C5Z{row:List Vl}{args:List Ex}{i:Nat}(h:args.length<=i):Av row args i=B2 (args.map (ev row)):=by
 unfold Av
 rw[H0 h]
theorem B4u(row:List Vl)(hr:row.length<=1073741824)(hrs:∀v∈row,v.s.length<=1073741824)(dr:D)(hdr:B0 dr (B2 row)):∀e:Ex,e.bk<=1073741824->Pure Tryz.prog B1n [e.av,.d dr] (eV (ev row e)):=by
 refine Ex.ind λop n v name nl args ih hbk=>?_
 obtain⟨b1,b2,b3,b4⟩:=Ex.bk_bounds hbk
 have ih':∀a∈args,Pure Tryz.prog B1n [a.av,.d dr] (eV (ev row a)):=λa ha=>ih a ha (b4 a ha)
 clear ih
 rw[Ex.av_mk]
 refine C8P.go A6 rfl ?_
 have hlen:=N1 args
 have hF:=B4v op n v name (ng nl (xL args)) (xL args) C7 b2 (by omega)
 rw[hlen] at hF
 have hm:=O6 args
 have hd:B0 (ng nl (xL args)) (xL args):=C7
 have hget:∀(i:Nat) (op' n':Int) (v':Vl) (name':List UInt8) (nl':Bool) (args':List Ex),args[i]?=some (.mk op' n' v' name' nl' args')->(xL args)[i]?=some (U3 op' n' v' name' (ng nl' (xL args'))):=λi op' n' v' name' nl' args' h=>by
  rw[<- Ex.ds_mk];exact b9 h
 obtain⟨d,hde⟩:∃d,d=ng nl (xL args):=⟨_,rfl⟩
 rw[<- hde] at hF hd ⊢
 obtain⟨es,hes⟩:∃es,es=xL args:=⟨_,rfl⟩
 rw[<- hes] at hlen hm hd hget
 rw[m7]
 cases hf:J7 op n v name args.length with
 |false=>
  rw[hf] at hF
  repeat' first|refine st ?_|((with_reducible apply A4);conv=>whnf)|((with_reducible first|apply E9|apply E8);(·exact S2))|refine⟨λ_=>?_,λ_=>?_⟩|fail
  all_goals rfl
 |true=>
 rw[hf] at hF
 rw[if_pos rfl]
 have hcnt:=A5q (A41 hf)
 repeat' first|refine st ?_|((with_reducible apply A4);conv=>whnf)|refine⟨λ_=>?_,λ_=>?_⟩|fail
 refine M5 A6 D2p D14 (λ(i:Nat) (A:List (List D))=>[.arr 2 A.length,.d (eI i)]) (λi A=>[.cells [.d (eI op),.d (eI n),.d (eI v.k),.d (eI v.n),.d (.str v.s),.d (.str name),.d d],.cells [.d (eI 0),.d (eI 0),.d (.str [])],.arr A 3 0 false]) (λi A=>i<=args.length/\A=Av row args i) (λi _=>args.length-i) 0 [] rfl rfl rfl rfl (λ_ _ _=>⟨rfl,rfl⟩) rfl ⟨by omega,rfl⟩ ?_
 repeat' first|refine st ?_|((with_reducible apply A4);conv=>whnf)|refine⟨λ_=>?_,λ_=>?_⟩|fail
 intro i A ⟨h4,h5⟩
 have hAl:A.length=i:=by rw[h5];exact C60 row args i h4
 have hAm:∀e∈A,e.length=3:=by rw[h5];exact Q3 _
 cases hx:args[i]? with
 |some x=>
  have hlt:=(B3.1 hx).1
  have hI:=ih' x (C3 hx)
  have hset:=C61 (row:=row) hx
  obtain⟨op',n',v',name',nl',args'⟩:=x
  rw[Ex.av_mk] at hI
  have hg:=hget i _ _ _ _ _ _ hx
  rw[<- h5] at hset
  repeat' first|refine st ?_|((with_reducible apply A4);conv=>whnf)|refine⟨λ_=>?_,λ_=>?_⟩|fail
  exact⟨i+1,_,rfl,rfl,rfl,by omega,by omega,hset⟩
 |none=>
  have hge:=F2.1 hx
  rw[C5Z hge] at h5
  clear ih' hget hF
  obtain⟨l,hl⟩:∃l,l=args.map (ev row):=⟨_,rfl⟩
  have hll:l.length=args.length:=by rw[hl,D3]
  have hs:=C2M row args
  have hn:=C2L row args
  rw[<- hl] at h5 hs hn ⊢
  subst h5
  by_cases h12:op=1\/op=2
  ·rw[D8F op n v l row h12 (λe=>by subst e;exact C35 hf)]
   have hC:=C6Z op n v name d b2 row hr hrs dr hdr
   rcases h12 with rfl|rfl
   ·repeat' first|refine st ?_|((with_reducible apply A4);conv=>whnf)|refine⟨λ_=>?_,λ_=>?_⟩|fail
    all_goals rfl
   ·repeat' first|refine st ?_|((with_reducible apply A4);conv=>whnf)|refine⟨λ_=>?_,λ_=>?_⟩|fail
    all_goals rfl
  rcases hcnt with ⟨h,k⟩|⟨h,k⟩|⟨h,k⟩|⟨h,k⟩|⟨h,k⟩|⟨h,k⟩|⟨h,k⟩
  ·exact absurd h h12
  ·obtain⟨a,rfl⟩:∃a,l=[a]:=by
    match l,hll.trans k with
    |[a],_=>exact⟨a,rfl⟩
   have g0:(B2 [a])[(0:Nat)]?=some a.ds:=rfl
   rcases h with rfl|rfl|rfl|rfl
   ·repeat' first|refine st ?_|((with_reducible apply A4);conv=>whnf)|((with_reducible first|apply E9|apply E8);(·first|exact A4p _|exact B4L _|exact B0N _))|refine⟨λ_=>?_,λ_=>?_⟩|fail
    all_goals rfl
   ·have hA:=A6d [a] (by simp) (.sl (B2 [a])) A0y 1
    obtain⟨na1,na2⟩:=hn a (by simp)
    have e:T8 18 n v [a] row=if W1 [a] 1 then Y4 (0-a.n) else C5:=rfl
    rw[e]
    cases hk:W1 [a] 1 with
    |true=>
     rw[hk] at hA
     repeat' first|refine st ?_|((with_reducible apply A4);conv=>whnf)|((with_reducible first|apply E9|apply E8);(·exact A0C _))|refine⟨λ_=>?_,λ_=>?_⟩|fail
     all_goals rfl
    |false=>
     rw[hk] at hA
     repeat' first|refine st ?_|((with_reducible apply A4);conv=>whnf)|((with_reducible first|apply E9|apply E8);(·exact S2))|refine⟨λ_=>?_,λ_=>?_⟩|fail
     all_goals rfl
   ·have hC:=C75 a (hs a (by simp))
    repeat' first|refine st ?_|((with_reducible apply A4);conv=>whnf)|refine⟨λ_=>?_,λ_=>?_⟩|fail
    all_goals rfl
   ·repeat' first|refine st ?_|((with_reducible apply A4);conv=>whnf)|((with_reducible first|apply E9|apply E8);(·exact A8h _))|refine⟨λ_=>?_,λ_=>?_⟩|fail
    all_goals rfl
  ·obtain⟨a,b,rfl⟩:∃a b,l=[a,b]:=by
    match l,hll.trans k with
    |[a,b],_=>exact⟨a,b,rfl⟩
   have g0:(B2 [a,b])[(0:Nat)]?=some a.ds:=rfl
   have g1:(B2 [a,b])[(1:Nat)]?=some b.ds:=rfl
   by_cases h19:op=19
   ·subst h19
    have hC:=C74 a b (hs a (by simp)) (hs b (by simp))
    repeat' first|refine st ?_|((with_reducible apply A4);conv=>whnf)|refine⟨λ_=>?_,λ_=>?_⟩|fail
    all_goals rfl
   by_cases h13:13<=op
   ·have hA:=A6d [a,b] (by simp) (.sl (B2 [a,b])) A0y 1
    have hC:=C6X op a.n b.n (hn a (by simp)) (hn b (by simp))
    have e:T8 op n v [a,b] row=if W1 [a,b] 1 then A3p op a.n b.n else C5:=by
     unfold T8
     rw[if_neg (by omega),if_neg (by omega),if_neg (by omega),if_neg (by omega),if_neg (by omega),if_neg (by omega),if_neg (by omega),if_neg (by omega),if_neg (by omega),if_pos (by omega)]
     unfold s6 vAr
     rw[if_neg (show ¬op=18 by omega)]
     rfl
    rw[e]
    clear e
    cases hk:W1 [a,b] 1 with
    |true=>
     rw[hk] at hA
     rcases(show op=13\/op=14\/op=15\/op=16\/op=17 by omega) with rfl|rfl|rfl|rfl|rfl
     all_goals repeat' first|refine st ?_|((with_reducible apply A4);conv=>whnf)|refine⟨λ_=>?_,λ_=>?_⟩|fail
     all_goals rfl
    |false=>
     rw[hk] at hA
     rcases(show op=13\/op=14\/op=15\/op=16\/op=17 by omega) with rfl|rfl|rfl|rfl|rfl
     all_goals repeat' first|refine st ?_|((with_reducible apply A4);conv=>whnf)|((with_reducible first|apply E9|apply E8);(·exact S2))|refine⟨λ_=>?_,λ_=>?_⟩|fail
     all_goals rfl
   ·have e:T8 op n v [a,b] row=O9 (vCp op a b):=by
     unfold T8
     rw[if_neg (by omega),if_neg (by omega),if_neg (by omega),if_neg (by omega),if_neg (by omega),if_neg (by omega),if_neg (by omega),if_neg (by omega),if_neg (by omega),if_neg (by omega)]
     rfl
    rw[e]
    clear e
    rcases(show op=7\/op=8\/op=9\/op=10\/op=11\/op=12 by omega) with rfl|rfl|rfl|rfl|rfl|rfl
    all_goals repeat' first|refine st ?_|((with_reducible apply A4);conv=>whnf)|((with_reducible first|apply E9|apply E8);(·first|exact C6W _ _ _|exact B0N _))|refine⟨λ_=>?_,λ_=>?_⟩|fail
    all_goals rfl
  ·obtain⟨a,r,rfl⟩:∃a r,l=a::r:=by
    match l,hll with
    |[],h=>simp at h;omega
    |a::r,_=>exact⟨a,r,rfl⟩
   have hC:=C70 op a r (by simp at hll;omega)
   rcases h with rfl|rfl
   ·repeat' first|refine st ?_|((with_reducible apply A4);conv=>whnf)|refine⟨λ_=>?_,λ_=>?_⟩|fail
    all_goals rfl
   ·repeat' first|refine st ?_|((with_reducible apply A4);conv=>whnf)|refine⟨λ_=>?_,λ_=>?_⟩|fail
    all_goals rfl
  ·obtain⟨a,b,c,e⟩:∃a b c,l=[a,b,c]:=by
    match l,hll.trans k with
    |[a,b,c],_=>exact⟨a,b,c,rfl⟩
   subst h
   have hC:=C6U l a b c e
   have e2:T8 22 n v l row=if L8 a=2 then b else c:=by rw[e];rfl
   rw[e2]
   repeat' first|refine st ?_|((with_reducible apply A4);conv=>whnf)|refine⟨λ_=>?_,λ_=>?_⟩|fail
   all_goals rfl
  ·obtain⟨rfl,_⟩:=h
   have hC:=C6V l (by omega)
   have e:T8 23 n v l row=V8 l:=rfl
   rw[e]
   repeat' first|refine st ?_|((with_reducible apply A4);conv=>whnf)|refine⟨λ_=>?_,λ_=>?_⟩|fail
   all_goals rfl
  ·obtain⟨a,b,c,e,rfl⟩:∃a b c e,l=[a,b,c,e]:=by
    match l,hll.trans k with
    |[a,b,c,e],_=>exact⟨a,b,c,e,rfl⟩
   subst h
   have hC:=C71 n a b c e
   repeat' first|refine st ?_|((with_reducible apply A4);conv=>whnf)|refine⟨λ_=>?_,λ_=>?_⟩|fail
   all_goals rfl
theorem B4z(row:List Vl)(hr:row.length<=1073741824)(hrs:∀v∈row,v.s.length<=1073741824)(dr:D)(hdr:B0 dr (B2 row))(e:Ex)(he:e.bk<=1073741824):Pure Tryz.prog B1o [e.av,.d dr] (.d (eI (L8 (ev row e)))):=by
 have h:=B4u row hr hrs dr hdr e he
 obtain⟨op,n,v,name,nl,args⟩:=e
 rw[Ex.av_mk] at h ⊢
 refine C8U.go A6 rfl ?_
 repeat' first|refine st ?_|((with_reducible apply A4);conv=>whnf)|((with_reducible first|apply E9|apply E8);(·exact A4p _))|refine⟨λ_=>?_,λ_=>?_⟩|fail
end Go.Proofs
end
section
namespace Go.Bi
open Go
def Y2(nl:Bool)(es:List (List D)):D:=if nl then .nil else .sl es
section
variable {P:Program}{M' M2:D6}{G':Gh}{os:List AO}{w':World}
variable (he:C8 M' G' os w')(hm:∀y u,M' y=some u->M2 y=some u)(hb:∀i,H1 os i->∀(o:Nat) u,w'.cell? ⟨G'.blk i,o,none⟩=some u->M2 ⟨G'.blk i,o,none⟩=some u)
include he hm hb
end
end Go.Bi
end
section
namespace Go.Bi
open Go
structure A6o(k:Nat)(P:Program)(n nb:Nat)(cd:IC)(N:Sl->List AO->Prop)(E:Nat->Sl->List AO->Prop)(R:Sl->List AO->Prop)(L:Sl)(os:List AO):Prop where
 h:∀body,cC P n body=some cd->∀c M G w a,Z5 n nb c M G os w (E7 L) a->Code.rounds P body (post n nb c (toK ⟨N,E,R⟩)) k a w
section
variable {P:Program}{n nb:Nat}{cd:IC}{N:Sl->List AO->Prop}{E0:Nat->Sl->List AO->Prop}{R:Sl->List AO->Prop}{L:Sl}{os:List AO}
theorem A0X(k:Nat)(h:A6o k P n nb cd N E0 R L os):A0j P n nb cd N E0 R L os:=by
 refine⟨λcode=>?_⟩
 induction code with
 |loop body ih=>
  intro hc c M G w a hR
  simp only[cC] at hc
  obtain⟨ic',hic,he⟩:=U1 hc
  cases he
  exact wp_loop_rounds k (h.h body hic c M G w a hR)
 |scope x ih=>
  intro hc c M G w a hR
  simp only[cC] at hc
  refine wp_scope_straight (wp_mono (ih hc c M G w a hR) λe a' w' hp=>?_)
  cases e<;>first|exact hp|exact hp.elim
 |skip=>intro hc;simp[cC] at hc
 |region id ops draw=>intro hc;simp only[cC] at hc;split at hc<;>(try split at hc)<;>(try split at hc)<;>(try split at hc)<;>(try split at hc)<;>cases hc
 |seq x y=>intro hc;simp only[cC] at hc;split at hc<;>cases hc
 |cond cnd x y=>intro hc;simp only[cC] at hc;split at hc<;>cases hc
 |block id x=>intro hc;simp only[cC] at hc;obtain⟨_,_,he⟩:=U1 hc;cases he
 |exit id=>intro hc;simp[cC] at hc
 |ret=>intro hc;simp[cC] at hc
 |_=>intro hc;simp[cC] at hc
theorem j8(hm:P.follows .mixedOrders=true){k:Nat}(h:Go (xI P n nb cd (λL' os'=>A6o k P n nb cd N E0 R L' os') E0 R L os)):A6o (k+1) P n nb cd N E0 R L os:=by
 refine⟨λbody hb c M G w a hR=>?_⟩
 rw[rounds_succ]
 have h1:=A3w (K:=⟨λL' os'=>A6o k P n nb cd N E0 R L' os',E0,R⟩) (K':=toK ⟨λL' os'=>A6o k P n nb cd N E0 R L' os',E0,R⟩) ⟨λL' os' h=>⟨L',rfl,h⟩,λi L' os' h=>⟨L',rfl,h⟩,λL' os' h=>⟨L',rfl,h⟩⟩ h
 refine wp_mono (A87 hm body cd hb _ _ _ h1 c M G w a hR) λe a' w' hp=>?_
 cases e with
 |normal=>
  obtain⟨M',G',os',ρ',hR',L',rfl,hk⟩:=hp
  exact hk.h body hb c M' G' w' a' hR'
 |exit id=>exact hp
 |ret=>exact hp
 |_=>exact hp
theorem A2d(id off sz:Nat)(hsz:Nat.blt 0 sz=true){cs:List AV}(ho:os[id]?=some (.cells cs))(hn:cs[off]?=some (.d .nil))
  (k:A0j P n nb cd N E0 R L ((os++[AO.arr [] sz 0 true]).set id (.cells (cs.set off (.arr os.length 0))))):A0j P n nb cd N E0 R L os:=by
 have hw:=C5A (n:=n) (nb:=nb) (ρ:=E7 L) (os:=os) id off sz (A3F A5e (R6 hsz)) ho hn
 refine⟨λcode hc c M G w a hR=>?_⟩
 obtain⟨M',G',hR'⟩:=hw c M G w a hR
 exact k.h code hc c M' G' w a hR'
end
end Go.Bi
end
section
namespace Go.Proofs
open Go.Bi
def A3J(r:B4):Prop:=r.length<=1073741824/\∀v∈r,v.s.length<=1073741824
abbrev O5(dk dr:D):AV:=.agg [.d dk,.d dr]
def K6(e:Ex)(r:B4):Bool:=decide (L8 (ev r e)=2)
theorem D93{α:Type}{p:α->Bool}{l:List α}{i:Nat}{e:α}(h:l[i]?=some e):(l.take (i+1)).filter p=(l.take i).filter p++if p e then [e] else []:=by
 rw[L5,h,A0E]
 congr 1
 show List.filter p [e]=_
 cases hp:p e<;>simp[j9,hp]
theorem E2z(p:B4->Bool)(l:List Rw):A8 (l.filter λr=>p r.vs)=(A8 l).filter p:=by
 unfold A8
 rw[List.filter_map]
 rfl
theorem A9g(a b:List Rw):B6 (a++b)=B6 a++B6 b:=by simp[B6]
theorem C7c(dk:D)(l:List Rw)(hl:l.length<=4294967296)(ho:∀r∈l,A3J r.vs)(dr:D)(hd:B0 dr (B6 l))(e:Ex)(he:e.bk<=1073741824) :
  Pure Tryz.prog B9K [O5 dk dr,e.av] (O5 dk (.sl (rD (D2 ((A8 l).filter (K6 e)))))):=by
 have hT:=λ(r:Rw) (h:r∈l)=>B4z r.vs (ho r h).1 (ho r h).2 r.d C7 e he
 have hfl:(l.filter λr=>K6 e r.vs).length<=l.length:=A1D ..
 have hS:=λd hd=>A0D (l.filter λr=>K6 e r.vs) (by omega) (λr h=>J2 (ho r (A06.1 h).1).1 (by decide)) d hd
 rw[E2z] at hS
 obtain⟨Z,hZ⟩:∃z,z=rD (D2 ((A8 l).filter (K6 e))):=⟨_,rfl⟩
 rw[<- hZ] at hS ⊢
 clear hZ
 have l1:=W0 l
 have m1:=X8 l
 have g1:=λi r=>@A1d l i r
 obtain⟨es,hes⟩:∃z,z=B6 l:=⟨_,rfl⟩
 rw[<- hes] at hd l1 m1 g1
 clear hes
 obtain⟨xo,xn,xv,xm,xl,xa⟩:=e
 rw[Ex.av_mk] at hT ⊢
 obtain⟨xd,hxd⟩:∃d,d=ng xl (xL xa):=⟨_,rfl⟩
 rw[<- hxd] at hT ⊢
 refine C9c.go A6 rfl ?_
 repeat' first|refine st ?_|((with_reducible apply A4);conv=>whnf)|refine⟨λ_=>?_,λ_=>?_⟩|fail
 refine A2d 3 1 1 rfl rfl rfl ?_
 refine M5 A6 D2E D1j (λ(i:Nat) (w:List Rw)=>[.d (eI i)]) (λi w=>[.cells [.d dk,.d dr],.cells [.d (eI xo),.d (eI xn),.d (eI xv.k),.d (eI xv.n),.d (.str xv.s),.d (.str xm),.d xd],.cells [.d .nil,.d .nil],.cells [.d dk,.arr 4 (B6 w).length],.arr (B6 w) 1 0 (B6 w).isEmpty]) (λi w=>i<=l.length/\w=(l.take i).filter λr=>K6 (.mk xo xn xv xm xl xa) r.vs) (λi w=>l.length-i) 0 [] rfl rfl rfl rfl (λ_ _ _=>⟨rfl,rfl⟩) rfl ⟨by omega,rfl⟩ ?_
 repeat' first|refine st ?_|((with_reducible apply A4);conv=>whnf)|refine⟨λ_=>?_,λ_=>?_⟩|fail
 intro i w ⟨i1,i2⟩
 have hwl:w.length<=i:=by
  rw[i2]
  exact J2 (A1D ..) (by rw[L6];omega)
 have hw1:=W0 w
 have hwm:=X8 w
 have hbd:((B6 w).length+1)*24<=140737488355328:=by omega
 have happ:=λr=>show B6 (w++[r])=B6 w++[[r.d]] by rw[A9g];rfl
 obtain⟨A,hA⟩:∃z,z=B6 w:=⟨_,rfl⟩
 rw[<- hA] at hw1 hwm hbd ⊢
 cases hx:l[i]? with
 |some r=>
  have hlt:=(B3.1 hx).1
  have hil:(i:Int)<es.length:=by omega
  have e1:es[((i:Nat):Int).toNat]?=some [r.d]:=g1 i r hx
  have hT:=hT r (C3 hx)
  have hft:=D93 (p:=λr:Rw=>K6 (.mk xo xn xv xm xl xa) r.vs) hx
  rw[<- i2] at hft
  have happ:=happ r
  rw[<- hA] at happ
  have hne:(A++[[r.d]]).isEmpty=false:=by simp
  obtain⟨rd,hrd⟩:∃d,d=r.d:=⟨_,rfl⟩
  rw[<- hrd] at hT e1 happ hne
  unfold K6 at hft
  obtain⟨t,ht⟩:∃t,t=L8 (ev r.vs (.mk xo xn xv xm xl xa)):=⟨_,rfl⟩
  rw[<- ht] at hT hft
  clear hrd ht i2 hx g1 hS ho
  by_cases h2:t=2
  ·rw[decide_eq_true h2,if_pos rfl] at hft
   subst h2
   repeat' first|refine st ?_|((with_reducible apply A4);conv=>whnf)|refine⟨λ_=>?_,λ_=>?_⟩|fail
   exact⟨i+1,w++[r],rfl,rfl,by rw[happ,hne];first|done|rfl|simp,by omega,by omega,hft.symm⟩
  ·rw[decide_eq_false h2,if_neg (by decide),W2] at hft
   repeat' first|refine st ?_|((with_reducible apply A4);conv=>whnf)|refine⟨λ_=>?_,λ_=>?_⟩|fail
   exact⟨i+1,w,rfl,rfl,by rw[hA];first|done|rfl,by omega,by omega,hft.symm⟩
 |none=>
  have hge:=F2.1 hx
  have hil:(es.length:Int)<=i:=by omega
  rw[H0 hge] at i2
  rw[<- i2] at hS
  obtain⟨b,hb⟩:∃b,b=A.isEmpty:=⟨_,rfl⟩
  rw[<- hA] at hS
  have hS:=hS (if b then .nil else .sl A) (by
   rw[hb]
   cases A with
   |nil=>exact .inl ⟨rfl,rfl⟩
   |cons a r=>exact .inr rfl)
  rw[<- hb]
  clear i2 hx g1 ho hT happ
  cases b
  all_goals skip
  all_goals repeat' first|refine st ?_|((with_reducible apply A4);conv=>whnf)|refine⟨λ_=>?_,λ_=>?_⟩|fail
  all_goals rfl
end Go.Proofs
end
