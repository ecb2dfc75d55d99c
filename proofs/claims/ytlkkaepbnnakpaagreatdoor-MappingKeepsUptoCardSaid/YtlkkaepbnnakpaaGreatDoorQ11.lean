/- Texts of this claim, joined. No condition. -/
import Derived.Test.YtlkkaepbnnakpaaGreatDoorQ10
set_option linter.unusedSimpArgs false
set_option linter.unusedVariables false
set_option maxRecDepth 10000
set_option maxHeartbeats 4000000
section
namespace Go.Proofs
open Go.Bi
theorem D0A{x:TD}{c:Ch}(hk:1<=c.k/\c.k<=4):(x.evoR c).t.cs=(D9 x.t c).cs:=by
 have h:=B8K (x:=x) hk
 unfold nf at h
 injection h
theorem C1T(x:TD)(h:x.ok)(c:Ch)(hc:G7 c)(row:List Vl)(hr:row.length<=1048576)(hrs:∀v∈row,v.s.length<=1048576)(dr:D)(hdr:B8 dr (B4 row)) :
  Pure Tryz.prog B5t [x.av,c.av,.d dr] (.d (s7 x.t c row)):=by
 have hI:=A1v x.t.nm x.t.cs h.tok.hl x.dc x.dk x.df x.dx h.tok.dc c.nm
 obtain⟨R,hR⟩:∃R,R=s7 x.t c row:=⟨_,rfl⟩
 rw[<- hR]
 unfold s7 at hR
 by_cases hq:D2 x.t c=0
 rotate_left
 ·have hA:=B9i x h c hc hq
  rw[if_neg (λe=>hq e.1)] at hR
  subst hR
  obtain⟨e,he⟩:∃e,e=D2 x.t c:=⟨_,rfl⟩
  rw[<- he] at hA hq
  clear he h
  obtain⟨⟨nm,cs,ks,fs,xs⟩,dc,dk,df,dx⟩:=x
  obtain⟨ck,cnm,to,⟨cn,cck,cl⟩,⟨vk,vn,vs⟩⟩:=c
  refine A3y.go A6 rfl ?_
  repeat' first|refine st ?_|((with_reducible first|apply A8|apply A7);(·exact hA))|(with_reducible first|apply A5|apply A4)<;>intro _
  all_goals rfl
 have hA:=B1Z x h c hc hq
 have hok:=TD.evoR_ok h hc hq
 obtain⟨q1,q2,q3,q4,q5⟩:=k8 hq
 have hK:=A4I (x.evoR c).t.nm (x.evoR c).t.cs hok.tok.hl (x.evoR c).dc (x.evoR c).dk (x.evoR c).df (x.evoR c).dx hok.tok.dc
 have hF:=A6I row (kd (x.evoR c).t.cs) hr (by rw[O3];exact hok.tok.hl) hrs dr hdr _ (.inr rfl)
 have hcs:=D0A (x:=x) q2
 obtain⟨y,hy⟩:∃y,y=x.evoR c:=⟨_,rfl⟩
 rw[<- hy] at hA hK hF hcs
 rw[<- hcs] at hR
 clear hy hok
 cases hf:I1 row (kd y.t.cs) with
 |false=>
  rw[hf] at hF hR
  rw[if_neg (λe=>by cases e.2)] at hR
  subst hR
  clear hq h hf q4 q5 hcs
  obtain⟨⟨nm,cs,ks,fs,xs⟩,dc,dk,df,dx⟩:=x
  obtain⟨ck,cnm,to,⟨cn,cck,cl⟩,⟨vk,vn,vs⟩⟩:=c
  refine A3y.go A6 rfl ?_
  repeat' first|refine st ?_|((with_reducible first|apply A8|apply A7);(·first|exact hA|exact hK|exact hF))|(with_reducible first|apply A5|apply A4)<;>intro _
  all_goals rfl
 |true=>
  obtain⟨hl,hb⟩:=l0 hf
  have hv:=(A45 hq).l1
  have hv2:=(A45 hq).l2
  have hvd:=r6.1 q1
  have hdc:=B05 h.tok hvd
  rw[O3,hcs] at hl
  have hl1:1<=row.length/\row.length<=12:=by omega
  have hd:=A3f hdr hl1.1
  subst hd
  have he:=S6 row
  have hm:=k7 row
  rw[hf] at hF hR
  rw[if_pos ⟨hq,rfl⟩] at hR
  unfold X6 at hR
  have hn0:(([]:List (List D))++B4 row).length=(B4 row).length:=rfl
  have hbb:∀b:Bool,(bif b then false else false)=false:=λb=>by cases b<;>rfl
  have hcl:=F4 x.t.cs
  have hmC:=I4 x.t.cs
  have hcb:(B2 x.t.cs).length<=12:=by have:=hvd.l2;omega
  unfold D9 at hl
  by_cases k1:c.k=1
  ·rw[if_pos k1] at hR hl
   dsimp only at hl
   rw[K4,A2N] at hl
   have ee:(List.take ((((B4 row).length:Int)-1).toNat-(0:Int).toNat) (List.drop (0:Int).toNat (B4 row)))=B4 (row.take x.t.cs.length):=by
    rw[show(((B4 row).length:Int)-1).toNat=x.t.cs.length by omega]
    show List.take _ (B4 row)=_
    rw[A42];rfl
   have hmA:∀e∈(List.take ((((B4 row).length:Int)-1).toNat-(0:Int).toNat) (List.drop (0:Int).toNat (B4 row))),e.length=3:=λe h=>hm e (A2O (W3 h))
   have hlA:((List.take ((((B4 row).length:Int)-1).toNat-(0:Int).toNat) (List.drop (0:Int).toNat (B4 row)))).length<=12:=by rw[ee,S6,L6];omega
   have hb1:(([]:List (List D)).length+((List.take ((((B4 row).length:Int)-1).toNat-(0:Int).toNat) (List.drop (0:Int).toNat (B4 row)))).length)*32<=140737488355328/\([]:List (List D)).length+((List.take ((((B4 row).length:Int)-1).toNat-(0:Int).toNat) (List.drop (0:Int).toNat (B4 row)))).length<=9223372036854775807:=by simp only[P9];omega
   rw[<- ee] at hR
   clear hq h hf q4 q5 hb ee hcs hlA
   obtain⟨⟨nm,cs,ks,fs,xs⟩,dc,dk,df,dx⟩:=x
   obtain⟨ck,cnm,to,⟨cn,cck,cl⟩,⟨vk,vn,vs⟩⟩:=c
   dsimp only at k1
   subst k1
   subst hR
   refine A3y.go A6 rfl ?_
   repeat' first|refine st ?_|((with_reducible first|apply A8|apply A7);(·first|exact hA|exact hK|exact hF|exact hI))|(with_reducible first|apply A5|apply A4)<;>intro _
   all_goals first|rfl|(simp only[hbb];rfl)
  obtain⟨i,co,hi,hco,hcn,hus,h4,h3⟩:=x9 (q5 k1)
  have hil:=(B3.1 hco).1
  rw[if_neg k1,hi,G8] at hR
  rw[if_neg k1,hi,G8] at hl
  rw[hi] at hI
  by_cases k2:c.k=2
  ·rw[if_pos k2] at hR hl
   dsimp only at hl
   rw[A0V,if_pos hil] at hl
   have hN:=w8
   have ee:(List.take (((i:Nat):Int).toNat-(0:Int).toNat) (List.drop (0:Int).toNat (B4 row)))++[F2.ds]++(List.take (((B4 row).length:Int).toNat-(((i:Nat):Int)).toNat) (List.drop (((i:Nat):Int)).toNat (B4 row)))=B4 (row.take i++F2::row.drop i):=by
    rw[G8,G8,M7 (l:=List.drop i (B4 row)) (by rw[Y4];exact G9 _)]
    show List.take i (B4 row)++_++_=_
    rw[A42,A7t,show row.take i++F2::row.drop i=row.take i++[F2]++row.drop i by simp,<- A2n,<- A2n];rfl
   rw[<- ee] at hR
   have hls:((List.take (((i:Nat):Int).toNat-(0:Int).toNat) (List.drop (0:Int).toNat (B4 row)))).length=i:=by
    show(List.take i (B4 row)).length=i
    rw[L6];omega
   have hls2:((List.take (((B4 row).length:Int).toNat-(((i:Nat):Int)).toNat) (List.drop (((i:Nat):Int)).toNat (B4 row)))).length<=12:=by
    have h1:=A6V (((B4 row).length:Int).toNat-(((i:Nat):Int)).toNat) (List.drop (((i:Nat):Int)).toNat (B4 row))
    have h2:(List.drop (((i:Nat):Int)).toNat (B4 row)).length<=(B4 row).length:=by rw[Y4];omega
    omega
   have hmA:∀e∈(List.take (((i:Nat):Int).toNat-(0:Int).toNat) (List.drop (0:Int).toNat (B4 row))),e.length=3:=λe h=>hm e (A2O (W3 h))
   have hmB:∀e∈(List.take (((B4 row).length:Int).toNat-(((i:Nat):Int)).toNat) (List.drop (((i:Nat):Int)).toNat (B4 row))),e.length=3:=λe h=>hm e (A2O (W3 h))
   have hb1:(([]:List (List D)).length+((List.take (((i:Nat):Int).toNat-(0:Int).toNat) (List.drop (0:Int).toNat (B4 row)))).length)*32<=140737488355328/\([]:List (List D)).length+((List.take (((i:Nat):Int).toNat-(0:Int).toNat) (List.drop (0:Int).toNat (B4 row)))).length<=9223372036854775807:=by rw[hls];simp only[P9];omega
   have hb2:(([]:List (List D))++(List.take (((i:Nat):Int).toNat-(0:Int).toNat) (List.drop (0:Int).toNat (B4 row)))).length=i:=hls
   have hb4:((([]:List (List D))++(List.take (((i:Nat):Int).toNat-(0:Int).toNat) (List.drop (0:Int).toNat (B4 row)))).length+[F2.ds].length)*32<=140737488355328/\(([]:List (List D))++(List.take (((i:Nat):Int).toNat-(0:Int).toNat) (List.drop (0:Int).toNat (B4 row)))).length+[F2.ds].length<=9223372036854775807:=by rw[hb2];simp only[I7,P9];omega
   have hb5:(([]:List (List D))++(List.take (((i:Nat):Int).toNat-(0:Int).toNat) (List.drop (0:Int).toNat (B4 row)))++[F2.ds]).length=i+1:=by rw[K4,hb2];rfl
   have hb3:((([]:List (List D))++(List.take (((i:Nat):Int).toNat-(0:Int).toNat) (List.drop (0:Int).toNat (B4 row)))++[F2.ds]).length+((List.take (((B4 row).length:Int).toNat-(((i:Nat):Int)).toNat) (List.drop (((i:Nat):Int)).toNat (B4 row)))).length)*32<=140737488355328/\(([]:List (List D))++(List.take (((i:Nat):Int).toNat-(0:Int).toNat) (List.drop (0:Int).toNat (B4 row)))++[F2.ds]).length+((List.take (((B4 row).length:Int).toNat-(((i:Nat):Int)).toNat) (List.drop (((i:Nat):Int)).toNat (B4 row)))).length<=9223372036854775807:=by rw[hb5];omega
   clear hq h hf q4 q5 hb ee hco h4 h3 hus hcs
   obtain⟨⟨nm,cs,ks,fs,xs⟩,dc,dk,df,dx⟩:=x
   obtain⟨ck,cnm,to,⟨cn,cck,cl⟩,⟨vk,vn,vs⟩⟩:=c
   dsimp only at k2 hil hl
   subst k2
   subst hR
   refine A3y.go A6 rfl ?_
   repeat' first|refine st ?_|((with_reducible first|apply A8|apply A7);(·first|exact hA|exact hK|exact hF|exact hI|exact hN))|(with_reducible first|apply A5|apply A4)<;>intro _
   all_goals first|rfl|(simp only[hbb];rfl)
  rw[if_neg k2] at hR hl
  have hl:row.length=x.t.cs.length:=by
   rw[hl];split<;>simp
  by_cases k4:c.k=4
  ·rw[if_pos k4] at hR
   obtain⟨v,hw⟩:∃v,row[i]?=some v:=⟨_,C8 (by omega)⟩
   have hgd:row.getD i F2=v:=by rw[E7,hw];rfl
   have hvs:=hb v (C4 hw)
   have hck:Z8 x.t (i:Int)=co.k:=by unfold Z8;rw[G8,hco]
   rw[hgd,hck] at hR
   have hg:(B4 row)[((i:Nat):Int).toNat]?=some v.ds:=A1O hw
   have hgc:(B2 x.t.cs)[((i:Nat):Int).toNat]?=some co.ds:=O2 hco
   have hP:=C22 v.s (by omega)
   have hN:=w8
   have hvk:v.k=0\/v.k=2:=by
    have h1:=((A7x _ _).1 hf).2 i v 2 hw (by
     rw[hcs,W9]
     unfold D9
     rw[if_neg k1,if_neg k2,if_neg (by omega:¬c.k=3),hi,G8]
     dsimp only
     rw[A05 hil];rfl)
    exact h1.2
   rw[<- A7u] at hR
   unfold bkV at hR
   obtain⟨⟨⟨pk,pn,ps⟩,pe⟩,hpp⟩:∃p,p=Z2 v.s:=⟨_,rfl⟩
   rw[<- hpp] at hP hR
   dsimp only at hP hR
   unfold TD.av at hA ⊢
   rw[hdc] at hA hI ⊢
   obtain⟨Cs,hCs⟩:∃z,z=B2 x.t.cs:=⟨_,rfl⟩
   rw[<- hCs] at hgc hcl hmC hcb hA hI ⊢
   have hilC:(i:Int)<Cs.length:=by omega
   clear hq h hf q4 q5 hb hco h4 h3 hus hgd hw hpp hck hcs hdc hCs hvd
   obtain⟨⟨nm,cs,ks,fs,xs⟩,dc,dk,df,dx⟩:=x
   obtain⟨ck,cnm,to,⟨cn,cck,cl⟩,⟨vk,vn,vs⟩⟩:=c
   obtain⟨wk,wn,ws⟩:=v
   obtain⟨con,cok,conl⟩:=co
   dsimp only at hA hI k4 hil hl hvk hR hP
   subst k4
   refine A3y.go A6 rfl ?_
   by_cases g1:pe=0
   rotate_left
   ·rw[if_pos (.inl g1)] at hR
    subst hR
    repeat' first|refine st ?_|((with_reducible first|apply A8|apply A7);(·first|exact hA|exact hK|exact hF|exact hI|exact hN|exact hP))|(with_reducible first|apply A5|apply A4)<;>intro _
    all_goals first|rfl|(simp only[hbb];rfl)
   subst g1
   by_cases g3:pk=cok
   rotate_left
   ·rw[if_pos (.inr (.inr g3))] at hR
    subst hR
    repeat' first|refine st ?_|((with_reducible first|apply A8|apply A7);(·first|exact hA|exact hK|exact hF|exact hI|exact hN|exact hP))|(with_reducible first|apply A5|apply A4)<;>intro _
    all_goals first|rfl|(simp only[hbb];rfl)
   subst g3
   by_cases g2:wk=0
   ·rw[if_pos (.inr (.inl (by omega)))] at hR
    subst hR
    subst g2
    repeat' first|refine st ?_|((with_reducible first|apply A8|apply A7);(·first|exact hA|exact hK|exact hF|exact hI|exact hN|exact hP))|(with_reducible first|apply A5|apply A4)<;>intro _
    all_goals first|rfl|(simp only[hbb];rfl)
   ·rw[if_neg (by rintro(e|e|e);exact e rfl;exact e (by omega);exact e rfl)] at hR
    subst hR
    obtain rfl:wk=2:=by omega
    repeat' first|refine st ?_|((with_reducible first|apply A8|apply A7);(·first|exact hA|exact hK|exact hF|exact hI|exact hN|exact hP))|(with_reducible first|apply A5|apply A4)<;>intro _
    all_goals first|rfl|(exfalso;rename_i hh;exact hh rfl)|(simp only[hbb];rfl)
  ·rw[if_neg k4] at hR
   clear hq h hf q4 q5 hb hco h4 h3 hus hcs
   obtain⟨⟨nm,cs,ks,fs,xs⟩,dc,dk,df,dx⟩:=x
   obtain⟨ck,cnm,to,⟨cn,cck,cl⟩,⟨vk,vn,vs⟩⟩:=c
   dsimp only at k1 k2 k4 hil hl
   subst hR
   refine A3y.go A6 rfl ?_
   repeat' first|refine st ?_|((with_reducible first|apply A8|apply A7);(·first|exact hA|exact hK|exact hF|exact hI))|(with_reducible first|apply A5|apply A4)<;>intro _
   all_goals first|rfl|(simp only[hbb];rfl)
def V6(S:List St)(row:List Vl):List Vl:=S.foldl (λr s=>X8 s.x.t s.c r) row
def X5(S:List St)(row:List Vl):List Vl:=S.foldr (λs r=>X6 s.x.t s.c r) row
theorem A7F(S:List St)(a p:Nat)(s:St)(row:List Vl)(hap:a<=p)(h:S[p]?=some s):V6 ((S.drop a).take (p+1-a)) row=X8 s.x.t s.c (V6 ((S.drop a).take (p-a)) row):=by
 have e:(S.drop a)[p-a]?=some s:=by rw[A03,show a+(p-a)=p by omega];exact h
 unfold V6
 rw[show p+1-a=(p-a)+1 by omega,Q9,e,A2I]
 rfl
theorem A7l(S:List St)(a p:Nat)(s:St)(row:List Vl)(hpa:p<a)(h:S[p]?=some s):X5 ((S.drop p).take (a-p)) row=X6 s.x.t s.c (X5 ((S.drop (p+1)).take (a-(p+1))) row):=by
 obtain⟨hlt,he⟩:=B3.1 h
 rw[S5 hlt,he,show a-p=(a-(p+1))+1 by omega,A2Q]
 rfl
theorem B0u(S:List St)(a:Nat)(row:List Vl):V6 ((S.drop a).take (a-a)) row=row:=by simp[V6]
theorem B6M(S:List St)(a:Nat)(row:List Vl):X5 ((S.drop a).take (a-a)) row=row:=by simp[X5]
def vK(x:TD)(l:List Ch)(i:Nat):List Int:=kd (I3 x (l.take i)).t.cs
theorem A6r{x:TD}{l:List Ch}{i:Nat}{c:Ch}(hb:M3 x l=true)(h:l[i]?=some c):vK x l (i+1)=kd (D9 (I3 x (l.take i)).t c).cs:=by
 unfold vK
 rw[A8e h,A5p,A8f (A1k hb h)]
theorem B0j{x:TD}{l:List Ch}(hb:M3 x l=true){a:Nat}{row:List Vl}(hf:I1 row (vK x l a)=true):∀k,a+k<=l.length->I1 (V6 (((J3 x l).drop a).take k) row) (vK x l (a+k))=true
 |0,_=>by simpa[V6] using hf
 |k+1,hk=>by
  have ih:=B0j hb hf k (by omega)
  obtain⟨c,hc⟩:∃c,l[a+k]?=some c:=⟨_,C8 (by omega)⟩
  have hs:=A7F (J3 x l) a (a+k) _ row (by omega) (v7 (x:=x) hc)
  rw[show a+k+1-a=k+1 by omega,show a+k-a=k by omega] at hs
  rw[hs,show a+(k+1)=a+k+1 by omega,A6r hb hc]
  exact D0I (A1k hb hc) ih
theorem B0h{x:TD}{l:List Ch}(hb:M3 x l=true){a:Nat}(ha:a<=l.length){row:List Vl}(hf:I1 row (vK x l a)=true):∀k,k<=a->I1 (X5 (((J3 x l).drop (a-k)).take k) row) (vK x l (a-k))=true
 |0,_=>by simpa[X5] using hf
 |k+1,hk=>by
  have ih:=B0h hb ha hf k (by omega)
  obtain⟨c,hc⟩:∃c,l[a-(k+1)]?=some c:=⟨_,C8 (by omega)⟩
  have hs:=A7l (J3 x l) a (a-(k+1)) _ row (by omega) (v7 (x:=x) hc)
  rw[show a-(a-(k+1))=k+1 by omega,show a-(a-(k+1)+1)=k by omega,show a-(k+1)+1=a-k by omega] at hs
  rw[hs]
  have h2:=A6r hb hc
  rw[show a-(k+1)+1=a-k by omega] at h2
  rw[h2] at ih
  exact D0H (A1k hb hc) ih
theorem B0k{x:TD}{l:List Ch}(hb:M3 x l=true){a p:Nat}{row:List Vl}(hf:I1 row (vK x l a)=true)(hap:a<=p)(hp:p<=l.length):I1 (V6 (((J3 x l).drop a).take (p-a)) row) (vK x l p)=true:=by
 have:=B0j hb hf (p-a) (by omega)
 rwa [show a+(p-a)=p by omega] at this
theorem B0i{x:TD}{l:List Ch}(hb:M3 x l=true){a p:Nat}{row:List Vl}(hf:I1 row (vK x l a)=true)(hap:p<=a)(ha:a<=l.length):I1 (X5 (((J3 x l).drop p).take (a-p)) row) (vK x l p)=true:=by
 have:=B0h hb ha hf (a-p) (by omega)
 rwa [show a-(a-p)=p by omega] at this
def A0e(x:TD)(l:List Ch)(a b:Nat)(row:List Vl):List Vl:=if a<=b then V6 (((J3 x l).drop a).take (b-a)) row else X5 (((J3 x l).drop b).take (a-b)) row
def A0E(x:TD)(l:List Ch)(a b:Int)(row:List Vl):D:=
 if O0 x l=false\/a<0\/b<0\/(l.length:Int)<a\/(l.length:Int)<b\/I1 row (vK x l a.toNat)=false then .nil
 else .sl (B4 (A0e x l a.toNat b.toNat row))
theorem B7J{x:TD}{l:List Ch}(hb:M3 x l=true){a b:Nat}(ha:a<=l.length)(hbl:b<=l.length){row:List Vl}(hf:I1 row (vK x l a)=true):I1 (A0e x l a b row) (vK x l b)=true:=by
 unfold A0e
 split
 ·exact B0k hb hf (by omega) hbl
 ·exact B0i hb hf (by omega) ha
theorem A4u{x:TD}{l:List Ch}(hq:K8 x.t=0)(hb:M3 x l=true){i:Nat}(hi:i<=l.length):1<=(vK x l i).length/\(vK x l i).length<=12:=by
 have h:=r6.1 (B1h hq hb i hi)
 unfold vK
 rw[O3]
 exact⟨h.l1,h.l2⟩
theorem C0w(s:St)(h:s.x.ok)(hq:D2 s.x.t s.c=0)(row:List Vl)(hf:I1 row (kd s.x.t.cs)=true):B5 Tryz.prog A9k [s.av,.ptr 0 0] [.cells [.d (.sl (B4 row))]] (λr os=>r=.tup []/\os=[.cells [.d (.sl (B4 (X8 s.x.t s.c row)))]]):=by
 have hI:=B1Q s h hq row hf
 obtain⟨q,hqq⟩:∃q,q=B4 (X8 s.x.t s.c row):=⟨_,rfl⟩
 rw[<- hqq] at hI ⊢
 clear hqq h hf hq
 obtain⟨⟨⟨nm,cs,ks,fs,xs⟩,dc,dk,df,dx⟩,y,⟨ck,cnm,to,⟨cn,cck,cl⟩,⟨vk,vn,vs⟩⟩⟩:=s
 refine C3G.goX A6 rfl ?_
 repeat' first|refine st ?_|((with_reducible first|apply A8|apply A7);(·exact hI))|(with_reducible first|apply A5|apply A4)<;>intro _
 all_goals exact⟨rfl,rfl⟩
theorem C0x(s:St)(h:s.x.ok)(hq:D2 s.x.t s.c=0)(row:List Vl)(hf:I1 row (kd (D9 s.x.t s.c).cs)=true):B5 Tryz.prog A9l [s.av,.ptr 0 0] [.cells [.d (.sl (B4 row))]] (λr os=>r=.tup []/\os=[.cells [.d (.sl (B4 (X6 s.x.t s.c row)))]]):=by
 have hI:=B1P s h hq row hf
 obtain⟨q,hqq⟩:∃q,q=B4 (X6 s.x.t s.c row):=⟨_,rfl⟩
 rw[<- hqq] at hI ⊢
 clear hqq h hf hq
 obtain⟨⟨⟨nm,cs,ks,fs,xs⟩,dc,dk,df,dx⟩,y,⟨ck,cnm,to,⟨cn,cck,cl⟩,⟨vk,vn,vs⟩⟩⟩:=s
 refine C3H.goX A6 rfl ?_
 repeat' first|refine st ?_|((with_reducible first|apply A8|apply A7);(·exact hI))|(with_reducible first|apply A5|apply A4)<;>intro _
 all_goals exact⟨rfl,rfl⟩
theorem B1M(x:TD)(h:x.ok)(l:List Ch)(hl:l.length<=1048576)(hls:∀c∈l,G7 c)(d:D)(hd:B8 d (M9 l))(a b:Int)(row:List Vl)(hr:row.length<=1048576)(hrs:∀v∈row,v.s.length<=1048576)(dr:D)(hdr:B8 dr (B4 row)) :
  Pure Tryz.prog A9j [x.av,.d d,.d (eI a),.d (eI b),.d dr] (.d (A0E x l a b row)):=by
 have hS:=A8A x h l hl hls d hd
 have hT:=B1O x h l hl hls d hd
 have h1:=A1L l
 obtain⟨q,hq⟩:∃q,q=A0E x l a b row:=⟨_,rfl⟩
 rw[<- hq]
 unfold A0E at hq
 unfold A6l at hT
 obtain⟨es,hes⟩:∃es,es=M9 l:=⟨_,rfl⟩
 rw[<- hes] at h1 hd
 cases hb:O0 x l with
 |false=>
  rw[hb] at hS hT hq
  rw[if_neg (by decide)] at hS hT
  rw[if_pos (.inl rfl)] at hq
  subst hq
  clear hb hd h
  obtain⟨⟨nm,cs,ks,fs,xs⟩,dc,dk,df,dx⟩:=x
  refine A2G.go A6 rfl ?_
  repeat' first|refine st ?_|((with_reducible first|apply A8|apply A7);(·exact hS))|(with_reducible first|apply A5|apply A4)<;>intro _
  all_goals rfl
 |true=>
  rw[hb] at hS hT hq
  rw[if_pos rfl] at hS hT
  have hbs:K8 x.t=0/\M3 x l=true:=by
   unfold O0 at hb
   rw[L2] at hb
   exact⟨of_decide_eq_true hb.1,hb.2⟩
  simp only[A4A,false_or] at hq
  by_cases g1:a<0
  ·rw[if_pos (.inl g1)] at hq
   subst hq
   clear hb hd h
   obtain⟨⟨nm,cs,ks,fs,xs⟩,dc,dk,df,dx⟩:=x
   refine A2G.go A6 rfl ?_
   repeat' first|refine st ?_|((with_reducible first|apply A8|apply A7);(·exact hS))|(with_reducible first|apply A5|apply A4)<;>intro _
   all_goals rfl
  by_cases g2:b<0
  ·rw[if_pos (.inr (.inl g2))] at hq
   subst hq
   clear hb hd h
   obtain⟨⟨nm,cs,ks,fs,xs⟩,dc,dk,df,dx⟩:=x
   refine A2G.go A6 rfl ?_
   repeat' first|refine st ?_|((with_reducible first|apply A8|apply A7);(·exact hS))|(with_reducible first|apply A5|apply A4)<;>intro _
   all_goals rfl
  by_cases g3:(l.length:Int)<a
  ·rw[if_pos (.inr (.inr (.inl g3)))] at hq
   subst hq
   have g3':(es.length:Int)<a:=by omega
   clear hb h
   obtain⟨⟨nm,cs,ks,fs,xs⟩,dc,dk,df,dx⟩:=x
   refine A2G.go A6 rfl ?_
   repeat' first|refine st ?_|((with_reducible first|apply A8|apply A7);(·exact hS))|(with_reducible first|apply A5|apply A4)<;>intro _
   all_goals rfl
  by_cases g4:(l.length:Int)<b
  ·rw[if_pos (.inr (.inr (.inr (.inl g4))))] at hq
   subst hq
   have g4':(es.length:Int)<b:=by omega
   clear hb h
   obtain⟨⟨nm,cs,ks,fs,xs⟩,dc,dk,df,dx⟩:=x
   refine A2G.go A6 rfl ?_
   repeat' first|refine st ?_|((with_reducible first|apply A8|apply A7);(·exact hS))|(with_reducible first|apply A5|apply A4)<;>intro _
   all_goals rfl
  obtain⟨a,rfl⟩:∃n:Nat,a=n:=⟨a.toNat,by omega⟩
  obtain⟨b,rfl⟩:∃n:Nat,b=n:=⟨b.toNat,by omega⟩
  have ga:a<=l.length:=by omega
  have gb:b<=l.length:=by omega
  rw[G8,G8] at hq
  have hv:=A5w (B9S x l a ga)
  have hvok:=TD.cp_ok (A33 (l.take a) h λc hc=>hls c (W3 hc))
  have hK:=A6J (I3 x (l.take a)).cp.t.nm (I3 x (l.take a)).cp.t.cs hvok.tok.hl (I3 x (l.take a)).cp.dc (I3 x (l.take a)).cp.dk (I3 x (l.take a)).cp.df (I3 x (l.take a)).cp.dx hvok.tok.dc
  have hvk:vK x l a=kd (I3 x (l.take a)).cp.t.cs:=rfl
  have hF:=A8E row (vK x l a) hr (by rw[hvk,O3];have:=hvok.tok.hl;omega) hrs dr hdr _ (A7L (I3 x (l.take a)).cp.t.cs)
  have hTl:=A41 (v8 x l)
  have hTm:=A37 (v8 x l)
  have hTl2:(v8 x l).length=l.length+1:=by unfold v8;rw[I7,D5,A22]
  obtain⟨v,hvv⟩:∃v,v=(I3 x (l.take a)).cp:=⟨_,rfl⟩
  rw[<- hvv] at hv hK hF
  obtain⟨Ts,hTs⟩:∃z,z=V4 (v8 x l):=⟨_,rfl⟩
  rw[<- hTs] at hT hv hTl hTm
  have hv2:Ts[((a:Nat):Int).toNat]?=_:=hv
  have ht1:(a:Int)<Ts.length:=by omega
  cases g6:I1 row (vK x l a) with
  |false=>
   rw[g6] at hq hF
   rw[if_pos (.inr (.inr (.inr (.inr rfl))))] at hq
   subst hq
   clear hb h hbs hvk hvv hvok
   obtain⟨⟨nm,cs,ks,fs,xs⟩,dc,dk,df,dx⟩:=x
   refine A2G.go A6 rfl ?_
   repeat' first|refine st ?_|((with_reducible first|apply A8|apply A7);(·first|exact hS|exact hT|exact hK|exact hF))|(with_reducible first|apply A5|apply A4)<;>intro _
   all_goals rfl
  |true=>
   rw[g6] at hq hF
   rw[if_neg (by rintro(e|e|e|e|e)<;>first|omega|cases e)] at hq
   have hrl:=(l0 g6).1
   have hne:=A4u hbs.1 hbs.2 ga
   have hdd:=A3f hdr (by omega)
   subst hdd
   have hmr:=k7 row
   have hCl:=A6z (B4 row) (by rw[S6];omega) hmr (.sl (B4 row)) (.inr rfl)
   have hSl:=A22 l x
   obtain⟨S,hSS⟩:∃S,S=J3 x l:=⟨_,rfl⟩
   have hcv:A0e x l a b row=if a<=b then V6 ((S.drop a).take (b-a)) row else X5 ((S.drop b).take (a-b)) row:=by rw[hSS];rfl
   rw[hcv] at hq
   have hff:=λp h1 h2=>B0k (p:=p) hbs.2 g6 h1 h2
   have hfb:=λp h1=>B0i (p:=p) hbs.2 g6 h1 ga
   rw[<- hSS] at hS hSl hff hfb
   have hSg:∀(i:Nat) s,S[i]?=some s->s.x.ok/\D2 s.x.t s.c=0/\kd s.x.t.cs=vK x l i/\kd (D9 s.x.t s.c).cs=vK x l (i+1):=λi s hs=>by
    have hi:=(B3.1 hs).1
    have hc:l[i]?=some (l[i]'(by omega)):=C8 (by omega)
    have h2:=v7 (x:=x) hc
    rw[<- hSS,hs] at h2
    rw[j7 h2]
    exact⟨A33 _ h λc hc=>hls c (W3 hc),A1k hbs.2 hc,rfl,(A6r hbs.2 hc).symm⟩
   have hsd:B8 (C2 (P6 S).isEmpty (P6 S)) (P6 S):=p9 λe=>A2L.1 e
   obtain⟨sd,hsd0⟩:∃z,z=C2 (P6 S).isEmpty (P6 S):=⟨_,rfl⟩
   rw[<- hsd0] at hS hsd
   obtain⟨z,hz⟩:∃z:Nat->D,z=λp=>if a<=p then .sl (B4 (V6 ((S.drop a).take (p-a)) row)) else .sl (B4 (X5 ((S.drop p).take (a-p)) row)):=⟨_,rfl⟩
   have hza:z a=.sl (B4 row):=by rw[hz];simp[V6]
   have hzf:∀p,a<=p->z p=.sl (B4 (V6 ((S.drop a).take (p-a)) row)):=λp hp=>by rw[hz];simp[hp]
   have hzb:∀p,p<=a->z p=.sl (B4 (X5 ((S.drop p).take (a-p)) row)):=λp hp=>by
    rw[hz]
    by_cases e:p=a
    ·subst e;simp[V6,X5]
    ·simp[show ¬a<=p by omega]
   have hW:=B1R A9k A9l S (by omega) sd hsd a b (by omega) (by omega) z (λi s h1 h2 h3=>by
     rw[hzf i h1,hzf (i+1) (by omega),A7F S a i s row h1 h3]
     obtain⟨k1,k2,k3,k4⟩:=hSg i s h3
     exact C0w s k1 k2 _ (by rw[k3];exact hff i h1 (by omega))) (λi s h1 h2 h3=>by
     rw[hzb i (by omega),hzb (i+1) (by omega),A7l S a i s row h2 h3]
     obtain⟨k1,k2,k3,k4⟩:=hSg i s h3
     exact C0x s k1 k2 _ (by rw[k4];exact hfb (i+1) (by omega)))
   have hzr:z b=q:=by
    rw[hq]
    by_cases hab:a<=b
    ·rw[if_pos hab,hzf b hab]
    ·rw[if_neg hab,hzb b (by omega)]
   rw[hza,hzr] at hW
   have hL:=fun {os:List AO} (ho:os[1]?=some (.cells [.d (.sl (B4 row))]))=>B8n (id:=1) hW ho
   clear hb h hbs hW hzf hzb hz hza hzr hq hSS hsd0 hcv hff hfb hvk hvv hvok hrl hne hSg
   obtain⟨⟨nm,cs,ks,fs,xs⟩,dc,dk,df,dx⟩:=x
   refine A2G.go A6 rfl ?_
   repeat' first|refine st ?_|((with_reducible first|apply A8|apply A7);(·first|exact hS|exact hT|exact hK|exact hF|exact hCl))|((with_reducible first|apply I0|apply D7);(·exact hL rfl);(try rintro _ _ ⟨rfl,rfl⟩))|((with_reducible apply I8);(·exact hL rfl))|((with_reducible apply H8);refine st ?_;(with_reducible apply I5);(·exact rfl);refine st ?_;(with_reducible apply D7);(·exact hL rfl);(try rintro _ _ ⟨rfl,rfl⟩))|(with_reducible first|apply A5|apply A4)<;>intro _
   all_goals rfl
theorem A7S{t u:Tb}(h:nf t=nf u):t.cs=u.cs:=by unfold nf at h;injection h
theorem D0Q{t u:Tb}(hn:nf t=nf u){c:Ch}(hq:D2 u c=0){row:List Vl}(hf:I1 row (kd u.cs)=true):fwD t c row=.sl (B4 (X8 u c row)):=by
 unfold fwD
 rw[A5y hn c,A7S hn,D0R hn,if_pos ⟨hq,hf⟩]
theorem C9f{t u:Tb}(hn:nf t=nf u){c:Ch}(hq:D2 u c=0){row:List Vl}(hf:I1 row (kd (D9 u c).cs)=true):s7 t c row=.sl (B4 (X6 u c row)):=by
 unfold s7
 rw[A5y hn c,A7S (D0D hn c).2,C9g hn,if_pos ⟨hq,hf⟩]
theorem C1V(x:TD)(h:x.ok)(l:List Ch)(hl:l.length<=1048576)(hls:∀c∈l,G7 c)(d:D)(hd:B8 d (M9 l))(a b:Int)(row:List Vl)(hr:row.length<=1048576)(hrs:∀v∈row,v.s.length<=1048576)(dr:D)(hdr:B8 dr (B4 row)) :
  Pure Tryz.prog B5v [x.av,.d d,.d (eI a),.d (eI b),.d dr] (.d (A0E x l a b row)):=by
 have hT:=A8C x h l hl hls d hd
 have h1:=A1L l
 have hm:=A3Y l
 have hgc:=λi c=>@A5v l i c
 obtain⟨q,hq⟩:∃q,q=A0E x l a b row:=⟨_,rfl⟩
 rw[<- hq]
 unfold A0E at hq
 unfold A4m at hT
 rw[B0U] at hT
 obtain⟨es,hes⟩:∃es,es=M9 l:=⟨_,rfl⟩
 rw[<- hes] at h1 hd hgc hm
 cases hb:O0 x l with
 |false=>
  rw[hb] at hT hq
  rw[if_neg (by decide)] at hT
  rw[if_pos (.inl rfl)] at hq
  subst hq
  have g0:a<0\/0<=a:=by omega
  clear hb hd h
  obtain⟨⟨nm,cs,ks,fs,xs⟩,dc,dk,df,dx⟩:=x
  refine A2E.go A6 rfl ?_
  rcases g0 with g0|g0
  ·repeat' first|refine st ?_|((with_reducible first|apply A8|apply A7);(·exact hT))|(with_reducible first|apply A5|apply A4)<;>intro _
   all_goals rfl
  ·repeat' first|refine st ?_|((with_reducible first|apply A8|apply A7);(·exact hT))|(with_reducible first|apply A5|apply A4)<;>intro _
   all_goals rfl
 |true=>
  rw[hb] at hT hq
  rw[if_pos rfl] at hT
  have hbs:K8 x.t=0/\M3 x l=true:=by
   unfold O0 at hb
   rw[L2] at hb
   exact⟨of_decide_eq_true hb.1,hb.2⟩
  simp only[A4A,false_or] at hq
  have hTl:=A41 (R7 x l (l.length+1))
  have hTm:=A37 (R7 x l (l.length+1))
  have hTl2:(R7 x l (l.length+1)).length=l.length+1:=by unfold R7;rw[D5,List.length_range]
  rw[hTl2] at hTl
  have hTg:∀i,i<=l.length->∃y:TD,(V4 (R7 x l (l.length+1)))[i]?=some [.str y.t.nm,y.dc,y.dk,y.df,y.dx]/\y.ok/\nf y.t=nf (I3 x (l.take i)).t:=λi hi=>
   ⟨_,A5w (B0X x l _ i (by omega)),B1b h λc hc=>hls c (W3 hc),B1a x _ (A8b i hb)⟩
  obtain⟨Ts,hTs⟩:∃z,z=V4 (R7 x l (l.length+1)):=⟨_,rfl⟩
  rw[<- hTs] at hT hTl hTg hTm
  by_cases g1:a<0
  ·rw[if_pos (.inl g1)] at hq
   subst hq
   clear hb hd h
   obtain⟨⟨nm,cs,ks,fs,xs⟩,dc,dk,df,dx⟩:=x
   refine A2E.go A6 rfl ?_
   repeat' first|refine st ?_|((with_reducible first|apply A8|apply A7);(·exact hT))|(with_reducible first|apply A5|apply A4)<;>intro _
   all_goals rfl
  by_cases g3:(l.length:Int)<a
  ·rw[if_pos (.inr (.inr (.inl g3)))] at hq
   subst hq
   have g3':(Ts.length:Int)<=a:=by omega
   clear hb h
   obtain⟨⟨nm,cs,ks,fs,xs⟩,dc,dk,df,dx⟩:=x
   refine A2E.go A6 rfl ?_
   repeat' first|refine st ?_|((with_reducible first|apply A8|apply A7);(·exact hT))|(with_reducible first|apply A5|apply A4)<;>intro _
   all_goals rfl
  have g3':a<(Ts.length:Int):=by omega
  by_cases g2:b<0
  ·rw[if_pos (.inr (.inl g2))] at hq
   subst hq
   clear hb hd h
   obtain⟨⟨nm,cs,ks,fs,xs⟩,dc,dk,df,dx⟩:=x
   refine A2E.go A6 rfl ?_
   repeat' first|refine st ?_|((with_reducible first|apply A8|apply A7);(·exact hT))|(with_reducible first|apply A5|apply A4)<;>intro _
   all_goals rfl
  by_cases g4:(l.length:Int)<b
  ·rw[if_pos (.inr (.inr (.inr (.inl g4))))] at hq
   subst hq
   have g4':(Ts.length:Int)<=b:=by omega
   clear hb h
   obtain⟨⟨nm,cs,ks,fs,xs⟩,dc,dk,df,dx⟩:=x
   refine A2E.go A6 rfl ?_
   repeat' first|refine st ?_|((with_reducible first|apply A8|apply A7);(·exact hT))|(with_reducible first|apply A5|apply A4)<;>intro _
   all_goals rfl
  have g4':b<(Ts.length:Int):=by omega
  obtain⟨a,rfl⟩:∃n:Nat,a=n:=⟨a.toNat,by omega⟩
  obtain⟨b,rfl⟩:∃n:Nat,b=n:=⟨b.toNat,by omega⟩
  have ga:a<=l.length:=by omega
  have gb:b<=l.length:=by omega
  rw[G8,G8] at hq
  obtain⟨v,hv,hvok,hvn⟩:=hTg a ga
  have hvk:vK x l a=kd v.t.cs:=by unfold vK;rw[A7S hvn]
  have hK:=A4I v.t.nm v.t.cs hvok.tok.hl v.dc v.dk v.df v.dx hvok.tok.dc
  have hF:=A6I row (vK x l a) hr (by rw[hvk,O3];exact hvok.tok.hl) hrs dr hdr (.sl (A0 (kd v.t.cs))) (.inr (by rw[hvk]))
  have hv2:Ts[((a:Nat):Int).toNat]?=_:=hv
  cases g6:I1 row (vK x l a) with
  |false=>
   rw[g6] at hq hF
   rw[if_pos (.inr (.inr (.inr (.inr rfl))))] at hq
   subst hq
   clear hb h hbs hvk hvn hvok hTg
   obtain⟨⟨nm,cs,ks,fs,xs⟩,dc,dk,df,dx⟩:=x
   refine A2E.go A6 rfl ?_
   repeat' first|refine st ?_|((with_reducible first|apply A8|apply A7);(·first|exact hT|exact hK|exact hF))|(with_reducible first|apply A5|apply A4)<;>intro _
   all_goals rfl
  |true=>
   rw[g6] at hq hF
   rw[if_neg (by rintro(e|e|e|e|e)<;>first|omega|cases e)] at hq
   have hrl:=(l0 g6).1
   have hne:=A4u hbs.1 hbs.2 ga
   have hdd:=A3f hdr (by omega)
   subst hdd
   have hrl2:row.length<=12:=by omega
   have hmr:=k7 row
   have her:=S6 row
   have hbb:∀b:Bool,(bif b then false else false)=false:=λb=>by cases b<;>rfl
   have hff:=λp h1 h2=>B0k (p:=p) hbs.2 g6 h1 h2
   have hfb:=λp h1=>B0i (p:=p) hbs.2 g6 h1 ga
   have hSl:=A22 l x
   have hSg:∀(i:Nat) c,l[i]?=some c->(J3 x l)[i]?=some ⟨I3 x (l.take i),(I3 x (l.take i)).to c,c⟩:=λi c hc=>v7 hc
   have hev:∀(i:Nat) c,l[i]?=some c->D2 (I3 x (l.take i)).t c=0/\kd (D9 (I3 x (l.take i)).t c).cs=vK x l (i+1):=λi c hc=>⟨A1k hbs.2 hc,(A6r hbs.2 hc).symm⟩
   have hkk:∀i,kd (I3 x (l.take i)).t.cs=vK x l i:=λi=>rfl
   have hcv:A0e x l a b row=if a<=b then V6 (((J3 x l).drop a).take (b-a)) row else X5 (((J3 x l).drop b).take (a-b)) row:=rfl
   rw[hcv] at hq
   clear hcv
   have hvb:∀i,i<=l.length->(vK x l i).length<=12:=λi hi=>(A4u hbs.1 hbs.2 hi).2
   obtain⟨S,hSS⟩:∃S,S=J3 x l:=⟨_,rfl⟩
   rw[<- hSS] at hSl hSg hq hff hfb
   obtain⟨kx,hkx⟩:∃z,z=vK x l:=⟨_,rfl⟩
   rw[<- hkx] at hff hfb hev hkk hvb
   obtain⟨cx,hcx⟩:∃z,z=λi=>I3 x (l.take i):=⟨_,rfl⟩
   have zTg:∀i,i<=l.length->∃y:TD,Ts[i]?=some [.str y.t.nm,y.dc,y.dk,y.df,y.dx]/\y.ok/\nf y.t=nf (cx i).t:=λi hi=>by rw[hcx];exact hTg i hi
   have zSg:∀(i:Nat) c,l[i]?=some c->S[i]?=some ⟨cx i,(cx i).to c,c⟩:=λi c hc=>by rw[hcx];exact hSg i c hc
   have zev:∀(i:Nat) c,l[i]?=some c->D2 (cx i).t c=0/\kd (D9 (cx i).t c).cs=kx (i+1):=λi c hc=>by rw[hcx];exact hev i c hc
   have zkk:∀i,kd (cx i).t.cs=kx i:=λi=>by rw[hcx];exact hkk i
   clear hb h hbs hcx hSS hvn hTg hSg hev hkk hkx hvk hvok hrl g6
   obtain⟨⟨nm,cs,ks,fs,xs⟩,dc,dk,df,dx⟩:=x
   refine A2E.go A6 rfl ?_
   repeat' first|refine st ?_|((with_reducible first|apply A8|apply A7);(·first|exact hT|exact hK|exact hF))|(with_reducible first|apply A5|apply A4)<;>intro _
   refine A2A 12 rfl rfl rfl ?_
   repeat' first|refine st ?_|(with_reducible first|apply A5|apply A4)<;>intro _
   refine F7 A6 C5Y C54 (λ(i:Nat)=>[.d (.sl (B4 (V6 ((S.drop a).take (i-a)) row))),.d (eI i)]) (λi=>[.cells [.d (.str nm),.d dc,.d dk,.d df,.d dx],.arr (B4 row) 3 (B4 row).length (bif (B4 row).isEmpty then false else false)]) (λi=>a<=i/\(i<=b\/i=a)) (λi=>b-i) a rfl rfl (by rw[B0u];simp only[hbb];rfl) rfl (λ_ _=>⟨rfl,rfl⟩) rfl ⟨G9 _,.inr rfl⟩ ?_
   repeat' first|refine st ?_|(with_reducible first|apply A5|apply A4)<;>intro _
   intro i ⟨g7,g8⟩
   have hwf:i<=l.length->I1 (V6 ((S.drop a).take (i-a)) row) (kx i)=true:=λh=>hff i g7 h
   obtain⟨w,hw⟩:∃w,w=V6 ((S.drop a).take (i-a)) row:=⟨_,rfl⟩
   rw[<- hw] at hwf ⊢
   by_cases hib:i<b
   ·obtain⟨c,hc⟩:∃c,l[i]?=some c:=⟨_,C8 (by omega)⟩
    obtain⟨y,hy1,hy2,hy3⟩:=zTg i (by omega)
    have hwf:=hwf (by omega)
    obtain⟨hwl,hws⟩:=l0 hwf
    have hkl:=hvb i (by omega)
    have hI:=C1W y hy2 c (hls c (C4 hc)) w (by omega) (λv hv=>by have:=hws v hv;omega) (.sl (B4 w)) (.inr rfl)
    rw[D0Q hy3 (zev i c hc).1 (by rw[zkk];exact hwf)] at hI
    have hsn:=A7F S a i _ row g7 (zSg i c hc)
    rw[<- hw] at hsn
    dsimp only at hsn
    obtain⟨w2,hw2⟩:∃z,z=X8 (cx i).t c w:=⟨_,rfl⟩
    rw[<- hw2] at hI hsn
    have hgl:=hgc i c hc
    have hy1':Ts[((i:Nat):Int).toNat]?=_:=hy1
    have hgl':es[((i:Nat):Int).toNat]?=_:=hgl
    have hil:(i:Int)<es.length:=by omega
    have hil2:(i:Int)<Ts.length:=by omega
    obtain⟨ck,cnm,to,⟨cn,cck,cl⟩,⟨vk,vn,vs⟩⟩:=c
    clear hw zTg zSg zev zkk hff hfb hvb hq hw2
    repeat' first|refine st ?_|((with_reducible first|apply A8|apply A7);(·exact hI))|(with_reducible first|apply A5|apply A4)<;>intro _
    refine⟨i+1,?_,rfl,rfl,by omega,by omega,.inl (by omega)⟩
    rw[hsn]
    rfl
   ·by_cases hab:a<=b
    ·have hqw:q=.sl (B4 w):=by rw[hq,if_pos hab,hw,show i=b by omega]
     subst hqw
     clear zTg zSg zev zkk hff hfb hvb hw hwf
     repeat' first|refine st ?_|(with_reducible first|apply A5|apply A4)<;>intro _
     refine F7 A6 B4V B4K (λ(j:Nat)=>[.d (.sl (B4 w)),.d (eI a)]) (λj=>[.cells [.d (.str nm),.d dc,.d dk,.d df,.d dx],.arr (B4 row) 3 (B4 row).length (bif (B4 row).isEmpty then false else false)]) (λj=>True) (λj=>j) 0 rfl rfl rfl rfl (λ_ _=>⟨rfl,rfl⟩) rfl trivial ?_
     repeat' first|refine st ?_|(with_reducible first|apply A5|apply A4)<;>intro _
     intro j _
     repeat' first|refine st ?_|(with_reducible first|apply A5|apply A4)<;>intro _
     all_goals rfl
    ·have hwk:w=row:=by rw[hw,show i=a by omega,B0u]
     subst hwk
     rw[if_neg hab] at hq
     clear hw hwf hff
     repeat' first|refine st ?_|(with_reducible first|apply A5|apply A4)<;>intro _
     refine F7 A6 B4V B4K (λ(j:Nat)=>[.d (.sl (B4 (X5 ((S.drop j).take (a-j)) w))),.d (eI j)]) (λj=>[.cells [.d (.str nm),.d dc,.d dk,.d df,.d dx],.arr (B4 w) 3 (B4 w).length (bif (B4 w).isEmpty then false else false)]) (λj=>b<=j/\j<=a) (λj=>j) a rfl rfl (by rw[B6M];rfl) rfl (λ_ _=>⟨rfl,rfl⟩) rfl ⟨by omega,G9 _⟩ ?_
     repeat' first|refine st ?_|(with_reducible first|apply A5|apply A4)<;>intro _
     intro j ⟨g9,g10⟩
     have huf:=hfb j g10
     obtain⟨u,hu⟩:∃u,u=X5 ((S.drop j).take (a-j)) w:=⟨_,rfl⟩
     rw[<- hu] at huf ⊢
     by_cases hjb:b<j
     ·obtain⟨p,rfl⟩:∃p,j=p+1:=⟨j-1,by omega⟩
      obtain⟨c,hc⟩:∃c,l[p]?=some c:=⟨_,C8 (by omega)⟩
      obtain⟨y,hy1,hy2,hy3⟩:=zTg p (by omega)
      obtain⟨hul,hus⟩:=l0 huf
      have hkl:=hvb (p+1) (by omega)
      have hI:=C1T y hy2 c (hls c (C4 hc)) u (by omega) (λv hv=>by have:=hus v hv;omega) (.sl (B4 u)) (.inr rfl)
      rw[C9f hy3 (zev p c hc).1 (by rw[(zev p c hc).2];exact huf)] at hI
      have hsn:=A7l S a p _ w (by omega) (zSg p c hc)
      rw[<- hu] at hsn
      have hsm:X5 ((S.drop p).take (a-p)) w=X6 (cx p).t c u:=hsn
      obtain⟨w2,hw2⟩:∃z,z=X6 (cx p).t c u:=⟨_,rfl⟩
      rw[<- hw2] at hI hsm
      have hgl:=hgc p c hc
      have K9:((((p+1:Nat):Int))-1).toNat=p:=by omega
      have hy1':Ts[((((p+1:Nat):Int))-1).toNat]?=some [.str y.t.nm,y.dc,y.dk,y.df,y.dx]:=by rw[K9];exact hy1
      have hgl':es[((((p+1:Nat):Int))-1).toNat]?=some (A1K c):=by rw[K9];exact hgl
      have hil:(((p+1:Nat):Int))-1<es.length:=by omega
      have hil2:(((p+1:Nat):Int))-1<Ts.length:=by omega
      obtain⟨ck,cnm,to,⟨cn,cck,cl⟩,⟨vk,vn,vs⟩⟩:=c
      clear hu zTg zSg zev zkk hfb hvb hw2 hsn hq
      repeat' first|refine st ?_|((with_reducible first|apply A8|apply A7);(·exact hI))|(with_reducible first|apply A5|apply A4)<;>intro _
      refine⟨p,?_,rfl,rfl,by omega,by omega,by omega⟩
      rw[hsm,show((p+1:Nat):Int)-1=p by omega]
     ·have hqu:q=.sl (B4 u):=by rw[hq,hu,show j=b by omega]
      rw[hqu]
      clear hu zTg zSg zev zkk hfb hvb hq hqu
      repeat' first|refine st ?_|(with_reducible first|apply A5|apply A4)<;>intro _
      all_goals rfl
def Y0:Tb:=⟨[116],[⟨[97],1,false⟩,⟨[98],1,true⟩],[0],[],[]⟩
def saA:Ch:=⟨1,[],[],⟨[99],1,true⟩,⟨1,7,[]⟩⟩
def saX:Ch:=⟨4,[98],[],⟨[],0,false⟩,⟨0,0,[]⟩⟩
def v6:TD:=⟨Y0,.sl (B2 Y0.cs),.sl (A0 Y0.ks),.nil,.nil⟩
theorem A6f:v6.ok:=
 ⟨⟨by decide,by decide,by decide,by decide,by decide,λf hf=>by simp[v6,Y0] at hf,by decide,λe he=>by simp[v6,Y0] at he,O6,O6,A20,A20⟩,λe he=>by simp[v6,Y0] at he⟩
theorem B9G:G7 saA:=⟨by decide,by decide,by decide,by decide⟩
theorem B1c:G7 saX:=⟨by decide,by decide,by decide,by decide⟩
theorem A6g:D2 Y0 saA=0/\D2 Y0 saX=0:=⟨by kernel_rfl,by kernel_rfl⟩
abbrev w1:Vl:=⟨1,1,[]⟩
abbrev w7:Vl:=⟨1,7,[]⟩
abbrev t7:Vl:=⟨2,0,[55]⟩
abbrev t07:Vl:=⟨2,0,[48,55]⟩
theorem D3p:z7 w7=t7:=by
 have h:Lib.itoa 7=[55]:=by
  have:=Lib.itoa_nonneg 7
  rw[Lib.decDigits_one (by decide)] at this
  exact this
 have hv:J9 w7=true:=by decide
 have hl:r7 w7=[55]:=by
  unfold r7
  rw[hv,if_neg (by decide),if_pos rfl,h]
 unfold z7
 rw[if_neg (show ¬(1:Int)=0 by decide),hl]
 decide
theorem sa1:fwD Y0 saA [w1,w1]=.sl (B4 [w1,w1,w7]):=by
 unfold fwD
 rw[if_pos ⟨A6g.1,by decide⟩];rfl
theorem sa2:s7 Y0 saA [w1,w1,w1]=.sl (B4 [w1,w1]):=by
 unfold s7
 rw[if_pos ⟨A6g.1,by decide⟩];rfl
theorem sa3:fwD Y0 saX [w1,w7]=.sl (B4 [w1,t7]):=by
 unfold fwD
 rw[if_pos ⟨A6g.2,by decide⟩]
 have:X8 Y0 saX [w1,w7]=[w1,z7 w7]:=rfl
 rw[this,D3p]
theorem sa4:s7 Y0 saX [w1,t07]=.sl (B4 [w1,F2]):=by
 unfold s7
 rw[if_pos ⟨A6g.2,by decide⟩];kernel_rfl
theorem sa5:s7 Y0 saX [w1,t7]=.sl (B4 [w1,w7]):=by
 unfold s7
 rw[if_pos ⟨A6g.2,by decide⟩];kernel_rfl
theorem A8w:Pure Tryz.prog A3G [] (.d (.bool true)):=by
 have hI1:Bi.Pure Tryz.prog A2R [.d (eI 1)] (eV ⟨1,1,[]⟩):=A6F 1
 have hI7:Bi.Pure Tryz.prog A2R [.d (eI 7)] (eV ⟨1,7,[]⟩):=A6F 7
 have hT7:Bi.Pure Tryz.prog A2S [.d (.str [55])] (eV ⟨2,0,[55]⟩):=A6G [55] (by decide)
 have hT07:Bi.Pure Tryz.prog A2S [.d (.str [48,55])] (eV ⟨2,0,[48,55]⟩):=A6G [48,55] (by decide)
 have hN:=w8
 have h1:=B1N v6 A6f saA B9G [w1,w1] (by decide) (by decide) (.sl (B4 [w1,w1])) (.inr rfl)
 have h2:=A8x v6 A6f saA B9G [w1,w1,w1] (by decide) (by decide) (.sl (B4 [w1,w1,w1])) (.inr rfl)
 have h3:=B1N v6 A6f saX B1c [w1,w7] (by decide) (by decide) (.sl (B4 [w1,w7])) (.inr rfl)
 have h4:=A8x v6 A6f saX B1c [w1,t07] (by decide) (by decide) (.sl (B4 [w1,t07])) (.inr rfl)
 have h5:=A8x v6 A6f saX B1c [w1,t7] (by decide) (by decide) (.sl (B4 [w1,t7])) (.inr rfl)
 rw[show v6.t=Y0 from rfl,sa1] at h1
 rw[show v6.t=Y0 from rfl,sa2] at h2
 rw[show v6.t=Y0 from rfl,sa3] at h3
 rw[show v6.t=Y0 from rfl,sa4] at h4
 rw[show v6.t=Y0 from rfl,sa5] at h5
 have e1:=A4L [w1,w1,w7] (by decide) _ _ (.inr rfl) (.inr rfl)
 have e2:=A4L [w1,t7] (by decide) _ _ (.inr rfl) (.inr rfl)
 have e3:=A4L [w1,w7] (by decide) _ _ (.inr rfl) (.inr rfl)
 have e4:=A4L [w1,F2] (by decide) _ _ (.inr rfl) (.inr rfl)
 refine C2y.go A6 rfl ?_
 repeat' first|refine st ?_|((with_reducible first|apply A8|apply A7);(·first|exact hI1|exact hI7|exact hT7|exact hT07|exact hN|exact h1|exact h2|exact h3|exact h4|exact h5|exact e1|exact e2|exact e3|exact e4))|(with_reducible first|apply A5|apply A4)<;>intro _
 all_goals rfl
theorem C9K{x:TD}{l:List Ch}{a b:Nat}(h:a<=b)(row:List Vl):A0e x l a b row=V6 (((J3 x l).drop a).take (b-a)) row:=by unfold A0e;rw[if_pos h]
theorem C9J{x:TD}{l:List Ch}{a b:Nat}(h:b<=a)(row:List Vl):A0e x l a b row=X5 (((J3 x l).drop b).take (a-b)) row:=by
 unfold A0e
 by_cases e:a=b
 ·subst e;rw[if_pos (G9 _),B0u,B6M]
 ·rw[if_neg (by omega)]
theorem D0x{α:Type}(row:List α)(i j:Nat)(h:i≠j):(row.eraseIdx i)[(B0 (j:Int) i).toNat]?=row[j]?:=by
 unfold B0
 rw[A3C]
 split
 ·rw[if_neg (by omega)]
  congr 1
  omega
 ·rw[if_pos (by omega)];rfl
theorem D0S{t:Tb}{c:Ch}(h:D2 t c=0)(h4:c.k≠4){row:List Vl}(hf:I1 row (kd t.cs)=true){j:Int}{v:Vl}(hj:0<=j)(hv:row[j.toNat]?=some v):R6 t c j=-1\/(0<=R6 t c j/\(X8 t c row)[(R6 t c j).toNat]?=some v):=by
 obtain⟨q1,q2,q3,q4,q5⟩:=k8 h
 have hl:=(l0 hf).1
 rw[O3] at hl
 have hjl:=(B3.1 hv).1
 unfold R6
 rw[if_neg (by omega)]
 unfold X8
 by_cases k1:c.k=1
 ·rw[if_pos (by omega),if_pos k1]
  right
  refine⟨hj,?_⟩
  rw[J7 hjl];exact hv
 ·rw[if_neg k1]
  by_cases k2:c.k=2
  ·rw[if_neg (by omega),if_pos k2]
   obtain⟨i,co,hi,hco,_⟩:=x9 (q5 k1)
   rw[hi]
   by_cases hij:(i:Int)=j
   ·rw[if_pos hij];exact .inl rfl
   ·rw[if_neg hij]
    right
    obtain⟨n,rfl⟩:∃n:Nat,j=n:=⟨j.toNat,by omega⟩
    have e:=D0x row i n (by omega)
    rw[G8] at hv
    refine⟨?_,?_⟩
    ·unfold B0;split<;>omega
    ·rw[G8,e];exact hv
  ·rw[if_pos k2,if_neg k2,if_neg h4]
   exact .inr ⟨hj,hv⟩
theorem C9h{t:Tb}{c:Ch}(h:D2 t c=0)(h4:c.k≠4){row:List Vl}(hf:I1 row (kd (D9 t c).cs)=true){j:Int}{v:Vl}(hj:0<=j)(hv:row[j.toNat]?=some v):Z7 t c j=-1\/(0<=Z7 t c j/\(X6 t c row)[(Z7 t c j).toNat]?=some v):=by
 obtain⟨q1,q2,q3,q4,q5⟩:=k8 h
 have hl:=(l0 hf).1
 rw[O3] at hl
 have hjl:=(B3.1 hv).1
 unfold Z7 X6
 unfold D9 at hl
 by_cases k1:c.k=1
 ·rw[if_pos k1] at hl ⊢
  dsimp only at hl
  rw[K4,A2N] at hl
  by_cases e:j=(t.cs.length:Int)
  ·rw[if_pos ⟨k1,e⟩];exact .inl rfl
  ·rw[if_neg (λh=>e h.2),if_neg (by omega)]
   right
   refine⟨hj,?_⟩
   rw[A6S (by omega)];exact hv
 ·rw[if_neg (λh=>k1 h.1),if_neg k1]
  by_cases k2:c.k=2
  ·rw[if_pos k2]
   obtain⟨i,co,hi,hco,_⟩:=x9 (q5 k1)
   have hil:=(B3.1 hco).1
   rw[if_neg k1,if_pos k2,hi,G8] at hl
   dsimp only at hl
   rw[A0V,if_pos hil] at hl
   rw[hi]
   right
   by_cases hij:(i:Int)<=j
   ·rw[if_pos ⟨k2,hij⟩]
    refine⟨by omega,?_⟩
    rw[G8,P5 (by rw[L6];omega),L6,A5b (by omega),show(j+1).toNat-i=(j.toNat-i)+1 by omega,j0,A03,show i+(j.toNat-i)=j.toNat by omega]
    exact hv
   ·rw[if_neg (λh=>hij h.2)]
    refine⟨hj,?_⟩
    rw[G8,J7 (by rw[L6];omega),A6S (by omega)]
    exact hv
  ·rw[if_neg (λh=>k2 h.1),if_neg k2,if_neg h4]
   exact .inr ⟨hj,hv⟩
theorem D0W(t:Tb)(c:Ch):R6 t c (-1)=-1:=by unfold R6;rw[if_pos (.inr (.inl (by decide)))]
theorem B8h{x:TD}{l:List Ch}(hb:M3 x l=true){a:Nat}{row:List Vl}(hf:I1 row (vK x l a)=true){j:Int}{v:Vl}(hj:0<=j)(hv:row[j.toNat]?=some v):∀k,a+k<=l.length->(∀(i:Nat) c,a<=i->i<a+k->l[i]?=some c->c.k≠4)->
  S3 (((J3 x l).drop a).take k) j=-1\/(0<=S3 (((J3 x l).drop a).take k) j/\(V6 (((J3 x l).drop a).take k) row)[(S3 (((J3 x l).drop a).take k) j).toNat]?=some v)
 |0,_,_=>.inr ⟨hj,by simpa[V6,S3] using hv⟩
 |k+1,hk,hl=>by
  have ih:=B8h hb hf hj hv k (by omega) λi c h1 h2 h3=>hl i c h1 (by omega) h3
  obtain⟨c,hc⟩:∃c,l[a+k]?=some c:=⟨_,C8 (by omega)⟩
  have hff:=B0j hb hf k (by omega)
  have h1:=B0t (J3 x l) a (a+k) _ j (by omega) (v7 (x:=x) hc)
  have h2:=A7F (J3 x l) a (a+k) _ row (by omega) (v7 (x:=x) hc)
  rw[show a+k+1-a=k+1 by omega,show a+k-a=k by omega] at h1 h2
  rw[h1,h2]
  dsimp only
  rcases ih with e|⟨e1,e2⟩
  ·rw[e];exact .inl (D0W _ _)
  ·exact D0S (A1k hb hc) (hl _ c (by omega) (by omega) hc) hff e1 e2
theorem B8g{x:TD}{l:List Ch}(hb:M3 x l=true){a:Nat}(ha:a<=l.length){row:List Vl}(hf:I1 row (vK x l a)=true){j:Int}{v:Vl}(hj:0<=j)(hv:row[j.toNat]?=some v):∀k,k<=a->(∀(i:Nat) c,a-k<=i->i<a->l[i]?=some c->c.k≠4)->
  T8 (((J3 x l).drop (a-k)).take k) j=-1\/(0<=T8 (((J3 x l).drop (a-k)).take k) j/\(X5 (((J3 x l).drop (a-k)).take k) row)[(T8 (((J3 x l).drop (a-k)).take k) j).toNat]?=some v)
 |0,_,_=>.inr ⟨hj,by simpa[X5,T8] using hv⟩
 |k+1,hk,hl=>by
  have ih:=B8g hb ha hf hj hv k (by omega) λi c h1 h2 h3=>hl i c (by omega) h2 h3
  obtain⟨c,hc⟩:∃c,l[a-(k+1)]?=some c:=⟨_,C8 (by omega)⟩
  have hff:=B0h hb ha hf k (by omega)
  have h1:=A9S (J3 x l) a (a-(k+1)) _ j (by omega) (v7 (x:=x) hc)
  have h2:=A7l (J3 x l) a (a-(k+1)) _ row (by omega) (v7 (x:=x) hc)
  rw[show a-(a-(k+1))=k+1 by omega,show a-(a-(k+1)+1)=k by omega,show a-(k+1)+1=a-k by omega] at h1 h2
  rw[h1,h2]
  unfold bkI
  dsimp only
  have h3:=A6r hb hc
  rw[show a-(k+1)+1=a-k by omega] at h3
  rw[h3] at hff
  rcases ih with e|⟨e1,e2⟩
  ·rw[e];exact .inl (B6F (A1k hb hc))
  ·exact C9h (A1k hb hc) (hl _ c (by omega) (by omega) hc) hff e1 e2
structure Va(x:TD)(l:List Ch)(a b:Nat)(row:List Vl):Prop where
 t:K8 x.t=0
 s:M3 x l=true
 la:a<=l.length
 lb:b<=l.length
 f:I1 row (vK x l a)=true
theorem Va.e{x:TD}{l:List Ch}{a b:Nat}{row:List Vl}(h:Va x l a b row):O0 x l=true:=by unfold O0;rw[h.t,h.s];rfl
theorem Va.cnv{x:TD}{l:List Ch}{a b:Nat}{row:List Vl}(h:Va x l a b row):A0E x l a b row=.sl (B4 (A0e x l a b row)):=by
 unfold A0E
 have:=h.la
 have:=h.lb
 rw[if_neg,G8,G8]
 rw[h.e,G8,h.f]
 rintro(e|e|e|e|e|e)<;>first|omega|cases e
theorem keeps{x:TD}{l:List Ch}{a b:Nat}{row:List Vl}(h:Va x l a b row){j:Int}{v:Vl}(hj:0<=j)(hv:row[j.toNat]?=some v)(hl:∀(i:Nat) c,min a b<=i->i<max a b->l[i]?=some c->c.k≠4) :
  y0 x l a b j=-1\/(0<=y0 x l a b j/\(A0e x l a b row)[(y0 x l a b j).toNat]?=some v):=by
 have hjl:=(B3.1 hv).1
 have hrl:=(l0 h.f).1
 have ha:=h.la
 have hb:=h.lb
 unfold vK at hrl
 rw[O3] at hrl
 have e:y0 x l a b j=if a<=b then S3 (((J3 x l).drop a).take (b-a)) j else T8 (((J3 x l).drop b).take (a-b)) j:=by
  unfold y0
  rw[if_neg]
  ·simp only[G8]
   by_cases hab:a<=b
   ·rw[if_pos hab,if_pos (by omega)]
   ·rw[if_neg hab,if_neg (by omega)]
  ·rw[h.e,G8]
   rintro(e|e|e|e|e|e|e)<;>first|omega|cases e
 rw[e]
 by_cases hab:a<=b
 ·rw[if_pos hab,C9K hab]
  exact B8h h.s h.f hj hv (b-a) (by omega) λi c h1 h2 h3=>hl i c (by omega) (by omega) h3
 ·rw[if_neg hab,C9J (by omega)]
  have:=B8g h.s h.la h.f hj hv (a-b) (by omega) λi c h1 h2 h3=>hl i c (by omega) (by omega) h3
  rwa [show a-(a-b)=b by omega] at this
theorem D3e{x:TD}{l:List Ch}(h:O0 x l=true):K8 x.t=0/\M3 x l=true:=by
 unfold O0 at h
 rw[L2] at h
 exact⟨of_decide_eq_true h.1,h.2⟩
theorem C03{x:TD}{l:List Ch}{a b:Int}{row:List Vl}(h:¬(O0 x l=false\/a<0\/b<0\/(l.length:Int)<a\/(l.length:Int)<b\/I1 row (vK x l a.toNat)=false)):∃m n:Nat,a=m/\b=n/\Va x l m n row:=by
 simp only[not_or,Bool.not_eq_false] at h
 obtain⟨h1,h2,h3,h4,h5,h6⟩:=h
 obtain⟨k1,k2⟩:=D3e h1
 exact⟨a.toNat,b.toNat,by omega,by omega,k1,k2,by omega,by omega,h6⟩
theorem C9I(x:TD)(l:List Ch)(a b:Int)(row:List Vl):∃r,B8 (A0E x l a b row) (B4 r)/\r.length<=1048576:=by
 by_cases h:O0 x l=false\/a<0\/b<0\/(l.length:Int)<a\/(l.length:Int)<b\/I1 row (vK x l a.toNat)=false
 ·unfold A0E
  rw[if_pos h]
  exact⟨[],A20,by decide⟩
 ·obtain⟨m,n,rfl,rfl,hv⟩:=C03 h
  rw[hv.cnv]
  have h1:=(l0 (B7J hv.s hv.la hv.lb hv.f)).1
  have h2:=(A4u hv.t hv.s hv.lb).2
  exact⟨_,.inr rfl,by omega⟩
theorem C1b{q:D}{r:List Vl}(h:B8 q (B4 r))(hl:r.length<=1048576):Pure Tryz.prog A2T [.d q,.d q] (.d (.bool true)):=A4L r hl q q h h
abbrev caD(x:TD)(d:D)(a b:Int)(dr:D):AV:=.agg [.d (.str x.t.nm),.d x.dc,.d x.dk,.d x.df,.d x.dx,.d d,.d (eI a),.d (eI b),.d dr]
theorem C4y(x:TD)(h:x.ok)(l:List Ch)(hl:l.length<=1048576)(hls:∀c∈l,G7 c)(d:D)(hd:B8 d (M9 l))(a b:Int)(row:List Vl)(hr:row.length<=1048576)(hrs:∀v∈row,v.s.length<=1048576)(dr:D)(hdr:B8 dr (B4 row)) :
  Pure Tryz.prog B50 [caD x d a b dr] (.d (.bool true)):=by
 have h1:=B1M x h l hl hls d hd a b row hr hrs dr hdr
 have h2:=C1V x h l hl hls d hd a b row hr hrs dr hdr
 obtain⟨r1,k1,k2⟩:=C9I x l a b row
 obtain⟨q1,hq1⟩:∃q,q=A0E x l a b row:=⟨_,rfl⟩
 rw[<- hq1] at h1 h2 k1
 have e1:=C1b k1 k2
 have hA:=A8w
 clear h hq1 hdr hd
 obtain⟨⟨nm,cs,ks,fs,xs⟩,dc,dk,df,dx⟩:=x
 refine C2x.go A6 rfl ?_
 repeat' first|refine st ?_|((with_reducible first|apply A8|apply A7);(·first|exact h1|exact h2|exact e1|exact hA))|(with_reducible first|apply A5|apply A4)<;>intro _
 all_goals rfl
theorem C4x(x:TD)(h:x.ok)(l:List Ch)(hl:l.length<=1048576)(hls:∀c∈l,G7 c)(d:D)(hd:B8 d (M9 l))(a b:Int)(dr:D)(k:Int) :
  Pure Tryz.prog B4Z [caD x d a b dr,.d (eI k)] (.d (.bool true)):=by
 have h1:=B1L x h l hl hls d hd a b k
 have h2:=C1U x h l hl hls d hd a b k
 obtain⟨q1,hq1⟩:∃q,q=y0 x l a b k:=⟨_,rfl⟩
 rw[<- hq1] at h1 h2
 have r1:q1=q1:=rfl
 have hA:=A8w
 clear h hq1 hd
 obtain⟨⟨nm,cs,ks,fs,xs⟩,dc,dk,df,dx⟩:=x
 refine C2w.go A6 rfl ?_
 repeat' first|refine st ?_|((with_reducible first|apply A8|apply A7);(·first|exact h1|exact h2|exact hA))|(with_reducible first|apply A5|apply A4)<;>intro _
 all_goals first|rfl|(exfalso;rename_i hh;exact hh rfl)
def vaB(x:TD)(l:List Ch)(a b:Int)(row:List Vl):Bool:=
 if O0 x l=false\/a<0\/b<0\/(l.length:Int)<a\/(l.length:Int)<b\/I1 row (vK x l a.toNat)=false then false else true
theorem C1r(x:TD)(h:x.ok)(l:List Ch)(hl:l.length<=1048576)(hls:∀c∈l,G7 c)(d:D)(hd:B8 d (M9 l))(a b:Int)(row:List Vl)(hr:row.length<=1048576)(hrs:∀v∈row,v.s.length<=1048576)(dr:D)(hdr:B8 dr (B4 row)) :
  Pure Tryz.prog A8X [caD x d a b dr] (.d (.bool (vaB x l a b row))):=by
 have hT:=A8C x h l hl hls d hd
 obtain⟨q,hq⟩:∃q,q=vaB x l a b row:=⟨_,rfl⟩
 rw[<- hq]
 unfold vaB at hq
 unfold A4m at hT
 rw[B0U] at hT
 cases hb:O0 x l with
 |false=>
  rw[hb] at hT hq
  rw[if_neg (by decide)] at hT
  rw[if_pos (.inl rfl)] at hq
  subst hq
  have g0:a<0\/0<=a:=by omega
  clear hb hd h
  obtain⟨⟨nm,cs,ks,fs,xs⟩,dc,dk,df,dx⟩:=x
  refine A3w.go A6 rfl ?_
  rcases g0 with g0|g0
  ·repeat' first|refine st ?_|((with_reducible first|apply A8|apply A7);(·exact hT))|(with_reducible first|apply A5|apply A4)<;>intro _
   all_goals rfl
  ·repeat' first|refine st ?_|((with_reducible first|apply A8|apply A7);(·exact hT))|(with_reducible first|apply A5|apply A4)<;>intro _
   all_goals first|rfl|(exfalso;simp only[P9] at *;omega)
 |true=>
  rw[hb] at hT hq
  rw[if_pos rfl] at hT
  simp only[A4A,false_or] at hq
  have hTl:=A41 (R7 x l (l.length+1))
  have hTm:=A37 (R7 x l (l.length+1))
  have hTl2:(R7 x l (l.length+1)).length=l.length+1:=by unfold R7;rw[D5,List.length_range]
  rw[hTl2] at hTl
  have hTg:∀i,i<=l.length->∃y:TD,(V4 (R7 x l (l.length+1)))[i]?=some [.str y.t.nm,y.dc,y.dk,y.df,y.dx]/\y.ok/\nf y.t=nf (I3 x (l.take i)).t:=λi hi=>
   ⟨_,A5w (B0X x l _ i (by omega)),B1b h λc hc=>hls c (W3 hc),B1a x _ (A8b i hb)⟩
  obtain⟨Ts,hTs⟩:∃z,z=V4 (R7 x l (l.length+1)):=⟨_,rfl⟩
  rw[<- hTs] at hT hTl hTg hTm
  by_cases g1:a<0
  ·rw[if_pos (.inl g1)] at hq
   subst hq
   clear hb hd h hTg
   obtain⟨⟨nm,cs,ks,fs,xs⟩,dc,dk,df,dx⟩:=x
   refine A3w.go A6 rfl ?_
   repeat' first|refine st ?_|((with_reducible first|apply A8|apply A7);(·exact hT))|(with_reducible first|apply A5|apply A4)<;>intro _
   all_goals rfl
  by_cases g3:(l.length:Int)<a
  ·rw[if_pos (.inr (.inr (.inl g3)))] at hq
   subst hq
   have g3':(Ts.length:Int)<=a:=by omega
   clear hb h hTg
   obtain⟨⟨nm,cs,ks,fs,xs⟩,dc,dk,df,dx⟩:=x
   refine A3w.go A6 rfl ?_
   repeat' first|refine st ?_|((with_reducible first|apply A8|apply A7);(·exact hT))|(with_reducible first|apply A5|apply A4)<;>intro _
   all_goals rfl
  have g3':a<(Ts.length:Int):=by omega
  by_cases g2:b<0
  ·rw[if_pos (.inr (.inl g2))] at hq
   subst hq
   clear hb hd h hTg
   obtain⟨⟨nm,cs,ks,fs,xs⟩,dc,dk,df,dx⟩:=x
   refine A3w.go A6 rfl ?_
   repeat' first|refine st ?_|((with_reducible first|apply A8|apply A7);(·exact hT))|(with_reducible first|apply A5|apply A4)<;>intro _
   all_goals rfl
  by_cases g4:(l.length:Int)<b
  ·rw[if_pos (.inr (.inr (.inr (.inl g4))))] at hq
   subst hq
   have g4':(Ts.length:Int)<=b:=by omega
   clear hb h hTg
   obtain⟨⟨nm,cs,ks,fs,xs⟩,dc,dk,df,dx⟩:=x
   refine A3w.go A6 rfl ?_
   repeat' first|refine st ?_|((with_reducible first|apply A8|apply A7);(·exact hT))|(with_reducible first|apply A5|apply A4)<;>intro _
   all_goals rfl
  have g4':b<(Ts.length:Int):=by omega
  obtain⟨a,rfl⟩:∃n:Nat,a=n:=⟨a.toNat,by omega⟩
  rw[G8] at hq
  obtain⟨v,hv,hvok,hvn⟩:=hTg a (by omega)
  have hvk:vK x l a=kd v.t.cs:=by unfold vK;rw[A7S hvn]
  have hK:=A4I v.t.nm v.t.cs hvok.tok.hl v.dc v.dk v.df v.dx hvok.tok.dc
  have hF:=A6I row (vK x l a) hr (by rw[hvk,O3];exact hvok.tok.hl) hrs dr hdr (.sl (A0 (kd v.t.cs))) (.inr (by rw[hvk]))
  have hv2:Ts[((a:Nat):Int).toNat]?=_:=hv
  have hq:q=I1 row (vK x l a):=by
   rw[hq]
   cases I1 row (vK x l a) with
   |false=>rw[if_pos (.inr (.inr (.inr (.inr rfl))))]
   |true=>rw[if_neg (by rintro(e|e|e|e|e)<;>first|omega|cases e)]
  rw[<- hq] at hF
  clear hb h hvk hvn hvok hTg hq
  obtain⟨⟨nm,cs,ks,fs,xs⟩,dc,dk,df,dx⟩:=x
  refine A3w.go A6 rfl ?_
  repeat' first|refine st ?_|((with_reducible first|apply A8|apply A7);(·first|exact hT|exact hK|exact hF))|(with_reducible first|apply A5|apply A4)<;>intro _
  all_goals first|rfl|(cases q<;>rfl)
theorem D3H{x:TD}{l:List Ch}{a b:Int}{row:List Vl}(h:vaB x l a b row=true):∃m n:Nat,a=m/\b=n/\Va x l m n row:=by
 unfold vaB at h
 split at h
 ·cases h
 ·exact C03 (by assumption)
theorem C4z(x:TD)(h:x.ok)(l:List Ch)(hl:l.length<=1048576)(hls:∀c∈l,G7 c)(d:D)(hd:B8 d (M9 l))(a b:Int)(row:List Vl)(hr:row.length<=1048576)(hrs:∀v∈row,v.s.length<=1048576)(dr:D)(hdr:B8 dr (B4 row))(k:Int) :
  Pure Tryz.prog B51 [caD x d a b dr,.d (eI k)] (.d (.bool true)):=by
 have hV:=C1r x h l hl hls d hd a b row hr hrs dr hdr
 have hA:=A8w
 have her:=S6 row
 cases hb:vaB x l a b row with
 |false=>
  rw[hb] at hV
  clear hb h hd
  obtain⟨⟨nm,cs,ks,fs,xs⟩,dc,dk,df,dx⟩:=x
  refine A8I.go A6 rfl ?_
  repeat' first|refine st ?_|((with_reducible first|apply A8|apply A7);(·first|exact hV|exact hA))|(with_reducible first|apply A5|apply A4)<;>intro _
  all_goals rfl
 |true=>
  rw[hb] at hV
  obtain⟨a,b,rfl,rfl,va⟩:=D3H hb
  have hvb:=va.lb
  have hva:=va.la
  have hne1:=A4u va.t va.s va.la
  have hrl:=(l0 va.f).1
  have hdd:=A3f hdr (by omega)
  subst hdd
  have hmr:=k7 row
  by_cases g:k<0\/(row.length:Int)<=k
  ·clear hb h hd va
   obtain⟨⟨nm,cs,ks,fs,xs⟩,dc,dk,df,dx⟩:=x
   refine A8I.go A6 rfl ?_
   by_cases g0:k<0
   ·repeat' first|refine st ?_|((with_reducible first|apply A8|apply A7);(·first|exact hV|exact hA))|(with_reducible first|apply A5|apply A4)<;>intro _
    all_goals rfl
   ·have g1:(B4 row).length<=k:=by omega
    repeat' first|refine st ?_|((with_reducible first|apply A8|apply A7);(·first|exact hV|exact hA))|(with_reducible first|apply A5|apply A4)<;>intro _
    all_goals rfl
  have g0:0<=k:=by omega
  have g1:k<(B4 row).length:=by omega
  have hC:=B1M x h l hl hls d hd a b row hr hrs _ hdr
  rw[va.cnv] at hC
  have hcf:=B7J va.s va.la va.lb va.f
  have hcl:=(l0 hcf).1
  have hne:=A4u va.t va.s va.lb
  have hI:=B1L x h l hl hls d hd a b k
  obtain⟨v,hv⟩:∃v,row[k.toNat]?=some v:=⟨_,C8 (by omega)⟩
  have hkp:=λhlo=>keeps va g0 hv hlo
  have hgv:=A1O hv
  have hgc:=λi c=>@A5v l i c
  have h1:=A1L l
  have hm:=A3Y l
  obtain⟨es,hes⟩:∃es,es=M9 l:=⟨_,rfl⟩
  rw[<- hes] at hgc h1 hm hd
  obtain⟨w,hw⟩:∃w,w=A0e x l a b row:=⟨_,rfl⟩
  rw[<- hw] at hC hkp hcl
  obtain⟨j,hj⟩:∃j,j=y0 x l a b k:=⟨_,rfl⟩
  rw[<- hj] at hI hkp
  have hmw:=k7 w
  have hlw:=S6 w
  have hgw:=λi v=>@A1O w i v
  clear hb h va hw hj hes hcf
  obtain⟨⟨nm,cs,ks,fs,xs⟩,dc,dk,df,dx⟩:=x
  refine A8I.go A6 rfl ?_
  by_cases hab:a<=b
  ·repeat' first|refine st ?_|((with_reducible first|apply A8|apply A7);(·first|exact hV|exact hC|exact hA))|(with_reducible first|apply A5|apply A4)<;>intro _
   refine F7 A6 B4N B4C (λ(i:Nat)=>[.d (eI i)]) (λi=>[.cells [.d (.str nm),.d dc,.d dk,.d df,.d dx,.d d,.d (eI a),.d (eI b),.d (.sl (B4 row))]]) (λi=>a<=i/\i<=b/\∀(j:Nat) c,a<=j->j<i->l[j]?=some c->c.k≠4) (λi=>b-i) a rfl rfl (by show[AV.d (eI a)]=[AV.d (eI (min (a:Int) b))];rw[show min (a:Int) b=a by omega]) rfl (λ_ _=>⟨rfl,rfl⟩) rfl ⟨G9 _,by omega,λj c h1 h2=>by omega⟩ ?_
   repeat' first|refine st ?_|(with_reducible first|apply A5|apply A4)<;>intro _
   intro i ⟨g3,g4,g5⟩
   by_cases hib:i<b
   ·obtain⟨c,hc⟩:∃c,l[i]?=some c:=⟨_,C8 (by omega)⟩
    have hg:es[((i:Nat):Int).toNat]?=some (A1K c):=hgc i c hc
    have hil:(i:Int)<es.length:=by omega
    by_cases hk4:c.k=4
    ·obtain⟨ck,cnm,to,⟨cn,cck,cl⟩,⟨vk,vn,vs⟩⟩:=c
     dsimp only at hk4
     subst hk4
     clear hc hkp
     repeat' first|refine st ?_|((with_reducible first|apply A8|apply A7);(·exact hA))|(with_reducible first|apply A5|apply A4)<;>intro _
     all_goals rfl
    ·have g6:∀(j:Nat) c,a<=j->j<i+1->l[j]?=some c->c.k≠4:=λj c' h1 h2 h3=>by
      by_cases hji:j=i
      ·subst hji;rw[hc] at h3;cases h3;exact hk4
      ·exact g5 j c' h1 (by omega) h3
     clear hc g5 hkp
     obtain⟨ck,cnm,to,⟨cn,cck,cl⟩,⟨vk,vn,vs⟩⟩:=c
     dsimp only at hk4
     repeat' first|refine st ?_|((with_reducible first|apply A8|apply A7);(·exact hA))|(with_reducible first|apply A5|apply A4)<;>intro _
     exact⟨i+1,rfl,rfl,rfl,by omega,by omega,by omega,g6⟩
   ·have hkp:=hkp λj c h1 h2 h3=>g5 j c (by omega) (by omega) h3
    clear g5 hgc
    rcases hkp with e|⟨e1,e2⟩
    ·subst e
     repeat' first|refine st ?_|((with_reducible first|apply A8|apply A7);(·first|exact hI|exact hA))|(with_reducible first|apply A5|apply A4)<;>intro _
     all_goals rfl
    ·have e3:=hgw _ _ e2
     have e4:=(B3.1 e3).1
     have e5:j<(B4 w).length:=by omega
     have e6:¬j=-1:=by omega
     have z0:v.k=v.k:=rfl
     have z1:v.n=v.n:=rfl
     have z2:v.s=v.s:=rfl
     repeat' first|refine st ?_|((with_reducible first|apply A8|apply A7);(·first|exact hI|exact hC|exact hA))|(with_reducible first|apply A5|apply A4)<;>intro _
     all_goals first|rfl|(exfalso;rename_i hh;exact hh rfl)
  ·repeat' first|refine st ?_|((with_reducible first|apply A8|apply A7);(·first|exact hV|exact hC|exact hA))|(with_reducible first|apply A5|apply A4)<;>intro _
   refine F7 A6 B4N B4C (λ(i:Nat)=>[.d (eI i)]) (λi=>[.cells [.d (.str nm),.d dc,.d dk,.d df,.d dx,.d d,.d (eI a),.d (eI b),.d (.sl (B4 row))]]) (λi=>b<=i/\i<=a/\∀(j:Nat) c,b<=j->j<i->l[j]?=some c->c.k≠4) (λi=>a-i) b rfl rfl (by show[AV.d (eI b)]=[AV.d (eI (min (a:Int) b))];rw[show min (a:Int) b=b by omega]) rfl (λ_ _=>⟨rfl,rfl⟩) rfl ⟨G9 _,by omega,λj c h1 h2=>by omega⟩ ?_
   repeat' first|refine st ?_|(with_reducible first|apply A5|apply A4)<;>intro _
   intro i ⟨g3,g4,g5⟩
   by_cases hib:i<a
   ·obtain⟨c,hc⟩:∃c,l[i]?=some c:=⟨_,C8 (by omega)⟩
    have hg:es[((i:Nat):Int).toNat]?=some (A1K c):=hgc i c hc
    have hil:(i:Int)<es.length:=by omega
    by_cases hk4:c.k=4
    ·obtain⟨ck,cnm,to,⟨cn,cck,cl⟩,⟨vk,vn,vs⟩⟩:=c
     dsimp only at hk4
     subst hk4
     clear hc hkp
     repeat' first|refine st ?_|((with_reducible first|apply A8|apply A7);(·exact hA))|(with_reducible first|apply A5|apply A4)<;>intro _
     all_goals rfl
    ·have g6:∀(j:Nat) c,b<=j->j<i+1->l[j]?=some c->c.k≠4:=λj c' h1 h2 h3=>by
      by_cases hji:j=i
      ·subst hji;rw[hc] at h3;cases h3;exact hk4
      ·exact g5 j c' h1 (by omega) h3
     clear hc g5 hkp
     obtain⟨ck,cnm,to,⟨cn,cck,cl⟩,⟨vk,vn,vs⟩⟩:=c
     dsimp only at hk4
     repeat' first|refine st ?_|((with_reducible first|apply A8|apply A7);(·exact hA))|(with_reducible first|apply A5|apply A4)<;>intro _
     exact⟨i+1,rfl,rfl,rfl,by omega,by omega,by omega,g6⟩
   ·have hkp:=hkp λj c h1 h2 h3=>g5 j c (by omega) (by omega) h3
    clear g5 hgc
    rcases hkp with e|⟨e1,e2⟩
    ·subst e
     repeat' first|refine st ?_|((with_reducible first|apply A8|apply A7);(·first|exact hI|exact hA))|(with_reducible first|apply A5|apply A4)<;>intro _
     all_goals rfl
    ·have e3:=hgw _ _ e2
     have e4:=(B3.1 e3).1
     have e5:j<(B4 w).length:=by omega
     have e6:¬j=-1:=by omega
     have z0:v.k=v.k:=rfl
     have z1:v.n=v.n:=rfl
     have z2:v.s=v.s:=rfl
     repeat' first|refine st ?_|((with_reducible first|apply A8|apply A7);(·first|exact hI|exact hC|exact hA))|(with_reducible first|apply A5|apply A4)<;>intro _
     all_goals first|rfl|(exfalso;rename_i hh;exact hh rfl)
abbrev B6f:TypeId:=29
abbrev B6g:TypeId:=22
abbrev B6i:TypeId:=79
abbrev B6j:TypeId:=24
abbrev A9E:TypeId:=27
theorem B6T:Tryz.prog.cellsOf B6f=3:=by kernel_rfl
theorem C9t:Tryz.prog.cellsOf B6g=1:=by kernel_rfl
theorem B6V:Tryz.prog.cellsOf B6k=1:=by kernel_rfl
theorem C9v:Tryz.prog.cellsOf B6i=2:=by kernel_rfl
theorem C9w:Tryz.prog.cellsOf B6j=1:=by kernel_rfl
theorem C9x:Tryz.prog.cellsOf A9E=5:=by kernel_rfl
theorem C0b{ds:List D}(h:WT Tryz.prog B6f ds):∃c:Co,ds=c.ds:=by
 obtain⟨hl,hf⟩:=h.st' Tryz.underlying29
 rw[B6T] at hl
 match ds,hl with
 |[x,y,z],_=>
  have h0:=hf _ (Q4 ..)
  have h1:=hf _ (I2 _ (Q4 ..))
  have h2:=hf _ (I2 _ (I2 _ (Q4 ..)))
  dsimp only at h0 h1 h2
  rw[A3U] at h0
  rw[A5m] at h1
  rw[C9p] at h2
  obtain⟨a,ha⟩:=A3p h0
  obtain⟨b,hb⟩:=A1q h1
  obtain⟨s,hs⟩:=D3U h2
  simp at ha hb hs
  exact⟨⟨a,b,s⟩,by rw[ha,hb,hs]⟩
theorem D3X{ds:List D}(h:WT Tryz.prog B6g ds):∃d l,ds=[d]/\B8 d (B2 l):=by
 obtain⟨d,es,h1,h2,h4,h3⟩:=h.sl' Tryz.underlying22
 have:∃l,es=B2 l:=by
  clear h1 h2 h4
  induction es with
  |nil=>exact⟨[],rfl⟩
  |cons x es ih=>
   obtain⟨n,hn⟩:=C0b (h3 x (by simp))
   obtain⟨ks,hk⟩:=ih λy hy=>h3 y (by simp[hy])
   exact⟨n::ks,by rw[hn,hk];rfl⟩
 obtain⟨ks,rfl⟩:=this
 exact⟨d,ks,h1,h2⟩
theorem D40{ds:List D}(h:WT Tryz.prog B6i ds):∃f:Fo,ds=f.ds:=by
 obtain⟨hl,hf⟩:=h.st' Tryz.underlying79
 rw[C9v] at hl
 match ds,hl with
 |[x,y],_=>
  have h0:=hf _ (Q4 ..)
  have h1:=hf _ (I2 _ (Q4 ..))
  dsimp only at h0 h1
  rw[B6V] at h0
  rw[A3U] at h1
  obtain⟨d,ks,ha,hd⟩:=C0c h0
  obtain⟨s,hs⟩:=A3p h1
  simp at ha hs
  rcases hd with ⟨rfl,he⟩|rfl
  ·have:ks=[]:=by cases ks with
    |nil=>rfl
    |cons k ks=>cases he
   subst this
   exact⟨⟨true,[],s⟩,by rw[ha,hs];rfl⟩
  ·exact⟨⟨false,ks,s⟩,by rw[ha,hs];rfl⟩
theorem D41{ds:List D}(h:WT Tryz.prog B6j ds):∃d l,ds=[d]/\B8 d (H6 l):=by
 obtain⟨d,es,h1,h2,h4,h3⟩:=h.sl' Tryz.underlying24
 have:∃l,es=H6 l:=by
  clear h1 h2 h4
  induction es with
  |nil=>exact⟨[],rfl⟩
  |cons x es ih=>
   obtain⟨n,hn⟩:=D40 (h3 x (by simp))
   obtain⟨ks,hk⟩:=ih λy hy=>h3 y (by simp[hy])
   exact⟨n::ks,by rw[hn,hk];rfl⟩
 obtain⟨ks,rfl⟩:=this
 exact⟨d,ks,h1,h2⟩
theorem C9T{d:D}{l:List Co}(h:B8 d (B2 l)):l.length<=E4 [d]/\∀v∈l,v.nm.length<=E4 [d]:=by
 have h1:=A4o h
 have h2:(B2 l).length<=G6 (B2 l):=A3R λx hx=>by
  obtain⟨k,_,rfl⟩:=F1.1 hx
  simp only[Co.ds,E4,U7];omega
 rw[F4] at h2
 refine⟨by omega,λv hv=>?_⟩
 have h3:E4 v.ds<=G6 (B2 l):=A1I (F1.2 ⟨v,hv,rfl⟩)
 have h4:v.nm.length<=E4 v.ds:=by simp only[Co.ds,E4,U7];omega
 omega
theorem D0O{d:D}{l:List Fo}(h:B8 d (H6 l)):l.length<=E4 [d]/\∀f∈l,f.cs.length<=E4 [d]/\f.tb.length<=E4 [d]:=by
 have h1:=A4o h
 have h2:(H6 l).length<=G6 (H6 l):=A3R λx hx=>by
  obtain⟨k,_,rfl⟩:=F1.1 hx
  simp only[Fo.ds,E4,U7];omega
 rw[A1M] at h2
 refine⟨by omega,λv hv=>?_⟩
 have h3:E4 v.ds<=G6 (H6 l):=A1I (F1.2 ⟨v,hv,rfl⟩)
 have h4:v.tb.length<=E4 v.ds:=by simp only[Fo.ds,E4,U7];omega
 have h5:v.cs.length<=E4 [v.d]:=B8b v.sld
 have h6:E4 [v.d]<=E4 v.ds:=by simp only[Fo.ds,E4];omega
 omega
theorem D0E{d:D}{l:List Ex}(h:B8 d (xL l)):l.length<=E4 [d]/\∀e∈l,e.bk<=E4 [d]:=by
 have h1:=A4o h
 have h2:=C0h l
 refine⟨by omega,λv hv=>?_⟩
 have h3:E4 v.ds<=G6 (xL l):=A1I (F1.2 ⟨v,hv,rfl⟩)
 unfold Ex.bk
 omega
theorem D3k{t:Tb}{dc dk df dx:D}(hb:E4 [.str t.nm,dc,dk,df,dx]<=1048576)(hc:B8 dc (B2 t.cs))(hk:B8 dk (A0 t.ks))(hf:B8 df (H6 t.fs))(hx:B8 dx (xL t.xs)):M6 t dc dk df dx:=by
 have h1:=C9T hc
 have h2:=B8b hk
 have h3:=D0O hf
 have h4:=D0E hx
 have e:E4 [.str t.nm,dc,dk,df,dx]=t.nm.length+1+(E4 [dc]+(E4 [dk]+(E4 [df]+E4 [dx]))):=by simp only[E4,U7];omega
 rw[e] at hb
 exact {hn:=by omega,hl:=by omega,hls:=λc hc=>O9 (h1.2 c hc) (by omega),hk:=by omega,hfl:=by omega,hfc:=λf hf=>⟨O9 (h3.2 f hf).1 (by omega),O9 (h3.2 f hf).2 (by omega)⟩,hxs:=by omega,hxb:=λe he=>O9 (h4.2 e he) (by omega),dc:=hc,dk:=hk,df:=hf,dx:=hx}
abbrev B6d:TypeId:=33
theorem C9r:Tryz.prog.cellsOf B6d=9:=by kernel_rfl
abbrev Ch.ds(c:Ch):List D:=[eI c.k,.str c.nm,.str c.to,.str c.co.nm,eI c.co.k,.bool c.co.nl,eI c.df.k,eI c.df.n,.str c.df.s]
theorem D3V{ds:List D}(h:WT Tryz.prog B6d ds):∃c:Ch,ds=c.ds:=by
 obtain⟨hl,hf⟩:=h.st' Tryz.underlying33
 rw[C9r] at hl
 match ds,hl with
 |[d0,d1,d2,d3,d4,d5,d6,d7,d8],_=>
  have h0:=hf _ (Q4 ..)
  have h1:=hf _ (I2 _ (Q4 ..))
  have h2:=hf _ (I2 _ (I2 _ (Q4 ..)))
  have h3:=hf _ (I2 _ (I2 _ (I2 _ (Q4 ..))))
  have h4:=hf _ (I2 _ (I2 _ (I2 _ (I2 _ (Q4 ..)))))
  dsimp only at h0 h1 h2 h3 h4
  rw[A5m] at h0
  rw[A3U] at h1 h2
  rw[B6T] at h3
  rw[A9V] at h4
  obtain⟨k,h0⟩:=A1q h0
  obtain⟨nm,h1⟩:=A3p h1
  obtain⟨to,h2⟩:=A3p h2
  obtain⟨co,h3⟩:=C0b h3
  obtain⟨df,h4⟩:=B1w h4
  simp at h0 h1 h2 h3 h4
  obtain⟨e3,e4,e5⟩:=h3
  obtain⟨e6,e7,e8⟩:=h4
  exact⟨⟨k,nm,to,co,df⟩,by rw[h0,h1,h2,e3,e4,e5,e6,e7,e8]⟩
theorem C9A{c:Ch}(hb:E4 c.ds<=1048576):G7 c:=by
 simp only[Ch.ds,E4,U7] at hb
 exact⟨by omega,by omega,by omega,by omega⟩
abbrev TD.ds(x:TD):List D:=[.str x.t.nm,x.dc,x.dk,x.df,x.dx]
theorem D42{ds:List D}(h:WT Tryz.prog A9E ds):∃x:TD,ds=x.ds/\B8 x.dc (B2 x.t.cs)/\B8 x.dk (A0 x.t.ks)/\B8 x.df (H6 x.t.fs)/\B8 x.dx (xL x.t.xs)/\x.t.Rg:=by
 obtain⟨hl,hf⟩:=h.st' Tryz.underlying27
 rw[C9x] at hl
 match ds,hl with
 |[d0,d1,d2,d3,d4],_=>
  have h0:=hf _ (Q4 ..)
  have h1:=hf _ (I2 _ (Q4 ..))
  have h2:=hf _ (I2 _ (I2 _ (Q4 ..)))
  have h3:=hf _ (I2 _ (I2 _ (I2 _ (Q4 ..))))
  have h4:=hf _ (I2 _ (I2 _ (I2 _ (I2 _ (Q4 ..)))))
  dsimp only at h0 h1 h2 h3 h4
  rw[A3U] at h0
  rw[C9t] at h1
  rw[B6V] at h2
  rw[C9w] at h3
  rw[B6U] at h4
  obtain⟨s,hs⟩:=A3p h0
  obtain⟨dc,l,h1,hc⟩:=D3X h1
  obtain⟨dk,ks,h2,hk⟩:=C0c h2
  obtain⟨df,fs,h3,hf⟩:=D41 h3
  obtain⟨nl,xs,h4,hx⟩:=D3Z h4
  simp at hs h1 h2 h3 h4
  exact⟨⟨⟨s,l,ks,fs,xs⟩,dc,dk,df,ng nl (xL xs)⟩,by rw[hs,h1,h2,h3,h4],hc,hk,hf,p8,hx⟩
theorem D3l{x:TD}(hb:E4 x.ds<=1048576)(h:B8 x.dc (B2 x.t.cs)/\B8 x.dk (A0 x.t.ks)/\B8 x.df (H6 x.t.fs)/\B8 x.dx (xL x.t.xs)/\x.t.Rg):x.ok:=
 ⟨D3k hb h.1 h.2.1 h.2.2.1 h.2.2.2.1,h.2.2.2.2⟩
abbrev B6e:TypeId:=39
theorem D3W{ds:List D}(h:WT Tryz.prog B6e ds):∃d l,ds=[d]/\B8 d (M9 l):=by
 obtain⟨d,es,h1,h2,h4,h3⟩:=h.sl' Tryz.underlying39
 have:∃l,es=M9 l:=by
  clear h1 h2 h4
  induction es with
  |nil=>exact⟨[],rfl⟩
  |cons x es ih=>
   obtain⟨n,hn⟩:=D3V (h3 x (by simp))
   obtain⟨ks,hk⟩:=ih λy hy=>h3 y (by simp[hy])
   exact⟨n::ks,by rw[hn,hk];rfl⟩
 obtain⟨ks,rfl⟩:=this
 exact⟨d,ks,h1,h2⟩
theorem C9G{d:D}{l:List Ch}(h:B8 d (M9 l))(hb:E4 [d]<=1048576):l.length<=1048576/\∀c∈l,G7 c:=by
 have h1:=A4o h
 have h2:(M9 l).length<=G6 (M9 l):=A3R λx hx=>by
  obtain⟨k,_,rfl⟩:=F1.1 hx
  simp only[A1K,E4,U7];omega
 rw[A1L] at h2
 refine⟨by omega,λv hv=>?_⟩
 have h3:E4 (A1K v)<=G6 (M9 l):=A1I (F1.2 ⟨v,hv,rfl⟩)
 exact C9A (c:=v) (by show E4 (A1K v)<=_;omega)
abbrev A9B:TypeId:=45
theorem C9q:Tryz.prog.cellsOf A9B=9:=by kernel_rfl
theorem C9y:Tryz.prog.cellsOf A9E=5:=by kernel_rfl
theorem C9s:Tryz.prog.cellsOf B6e=1:=by kernel_rfl
theorem C9z:Tryz.prog.cellsOf B6n=1:=by kernel_rfl
abbrev caL(x:TD)(d:D)(a b:Int)(dr:D):List D:=[.str x.t.nm,x.dc,x.dk,x.df,x.dx,d,eI a,eI b,dr]
theorem B1v{ds:List D}(h:WT Tryz.prog A9B ds):∃(x:TD)(l:List Ch)(d:D)(a b:Int)(row:List Vl)(dr:D),ds=caL x d a b dr/\(B8 x.dc (B2 x.t.cs)/\B8 x.dk (A0 x.t.ks)/\B8 x.df (H6 x.t.fs)/\B8 x.dx (xL x.t.xs)/\x.t.Rg)/\B8 d (M9 l)/\B8 dr (B4 row):=by
 obtain⟨hl,hf⟩:=h.st' Tryz.underlying45
 rw[C9q] at hl
 match ds,hl with
 |[d0,d1,d2,d3,d4,d5,d6,d7,d8],_=>
  have h0:=hf _ (Q4 ..)
  have h1:=hf _ (I2 _ (Q4 ..))
  have h2:=hf _ (I2 _ (I2 _ (Q4 ..)))
  have h3:=hf _ (I2 _ (I2 _ (I2 _ (Q4 ..))))
  have h4:=hf _ (I2 _ (I2 _ (I2 _ (I2 _ (Q4 ..)))))
  dsimp only at h0 h1 h2 h3 h4
  rw[C9y] at h0
  rw[C9s] at h1
  rw[A5m] at h2 h3
  rw[C9z] at h4
  obtain⟨x,h0,hx⟩:=D42 h0
  obtain⟨d,l,h1,hl⟩:=D3W h1
  obtain⟨a,h2⟩:=A1q h2
  obtain⟨b,h3⟩:=A1q h3
  obtain⟨dr,row,h4,hr⟩:=D43 h4
  simp at h0 h1 h2 h3 h4
  obtain⟨e0,e1,e2,e3,e4⟩:=h0
  exact⟨x,l,d,a,b,row,dr,by rw[e0,e1,e2,e3,e4,h1,h2,h3,h4],hx,hl,hr⟩
theorem A9M(x:TD)(d:D)(a b:Int)(dr:D):A0y Tryz.prog A9B (caL x d a b dr)=caD x d a b dr:=by unfold A0y;rw[Tryz.underlying45];rfl
theorem A9T{x:TD}{l:List Ch}{d:D}{a b:Int}{row:List Vl}{dr:D}(hb:E4 (caL x d a b dr)<=1048576)(hx:B8 x.dc (B2 x.t.cs)/\B8 x.dk (A0 x.t.ks)/\B8 x.df (H6 x.t.fs)/\B8 x.dx (xL x.t.xs)/\x.t.Rg)(hl:B8 d (M9 l))(hr:B8 dr (B4 row)) :
  x.ok/\(l.length<=1048576/\∀c∈l,G7 c)/\row.length<=1048576/\∀v∈row,v.s.length<=1048576:=by
 have h1:E4 x.ds<=1048576:=by simp only[E4] at hb ⊢;omega
 have h2:E4 [d]<=1048576:=by simp only[E4] at hb ⊢;omega
 have h3:E4 [dr]<=1048576:=by simp only[E4] at hb ⊢;omega
 have hv:=D3K hr
 exact⟨D3l h1 hx,C9G hl h2,by omega,λv hm=>O9 (hv.2 v hm) h3⟩
end Go.Proofs
end
