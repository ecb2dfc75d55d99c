/- Texts of this claim, joined. No condition. -/
import Derived.Test.YtlkkaepbnnakpaaGreatDoorQ10
set_option linter.unusedSimpArgs false
set_option linter.unusedVariables false
set_option maxRecDepth 10000
set_option maxHeartbeats 4000000
section
namespace Go.Proofs
open Go.Bi
theorem evoR_cs{x:TD}{c:Ch}(hk:1<=c.k/\c.k<=4):(x.evoR c).t.cs=(evoT x.t c).cs:=by
 have h:=nf_evoR (x:=x) hk
 unfold nf at h
 injection h
theorem C.r15_Backward(x:TD)(h:x.ok)(c:Ch)(hc:Cok c)(row:List Vl)(hr:row.length<=1048576)(hrs:∀v∈row,v.s.length<=1048576)(dr:D)(hdr:SlD dr (eVs row)) :
  Pure Tryz.prog N.bt_ref15_Backward [x.av,c.av,.d dr] (.d (bwD x.t c row)):=by
 have hI:=C.r13_Find x.t.nm x.t.cs h.tok.hl x.dc x.dk x.df x.dx h.tok.dc c.nm
 obtain⟨R,hR⟩:∃R,R=bwD x.t c row:=⟨_,rfl⟩
 rw[<- hR]
 unfold bwD at hR
 by_cases hq:evoE x.t c=0
 rotate_left
 ·have hA:=r14_err x h c hc hq
  rw[if_neg (λe=>hq e.1)] at hR
  subst hR
  obtain⟨e,he⟩:∃e,e=evoE x.t c:=⟨_,rfl⟩
  rw[<- he] at hA hq
  clear he h
  obtain⟨⟨nm,cs,ks,fs,xs⟩,dc,dk,df,dx⟩:=x
  obtain⟨ck,cnm,to,⟨cn,cck,cl⟩,⟨vk,vn,vs⟩⟩:=c
  refine F.bt_ref15_Backward.go mixed rfl ?_
  repeat' first|refine st ?_|((with_reducible first|apply k_pn|apply k_pc);(·exact hA))|(with_reducible first|apply k_d|apply k_b)<;>intro _
  all_goals rfl
 have hA:=C.r14_Apply x h c hc hq
 have hok:=TD.evoR_ok h hc hq
 obtain⟨q1,q2,q3,q4,q5⟩:=evo_inv hq
 have hK:=C.r13_Kinds (x.evoR c).t.nm (x.evoR c).t.cs hok.tok.hl (x.evoR c).dc (x.evoR c).dk (x.evoR c).df (x.evoR c).dx hok.tok.dc
 have hF:=C.r8_Fits row (kd (x.evoR c).t.cs) hr (by rw[kd_len];exact hok.tok.hl) hrs dr hdr _ (.inr rfl)
 have hcs:=evoR_cs (x:=x) q2
 obtain⟨y,hy⟩:∃y,y=x.evoR c:=⟨_,rfl⟩
 rw[<- hy] at hA hK hF hcs
 rw[<- hcs] at hR
 clear hy hok
 cases hf:fits row (kd y.t.cs) with
 |false=>
  rw[hf] at hF hR
  rw[if_neg (λe=>by cases e.2)] at hR
  subst hR
  clear hq h hf q4 q5 hcs
  obtain⟨⟨nm,cs,ks,fs,xs⟩,dc,dk,df,dx⟩:=x
  obtain⟨ck,cnm,to,⟨cn,cck,cl⟩,⟨vk,vn,vs⟩⟩:=c
  refine F.bt_ref15_Backward.go mixed rfl ?_
  repeat' first|refine st ?_|((with_reducible first|apply k_pn|apply k_pc);(·first|exact hA|exact hK|exact hF))|(with_reducible first|apply k_d|apply k_b)<;>intro _
  all_goals rfl
 |true=>
  obtain⟨hl,hb⟩:=fits_bd hf
  have hv:=(evo_vd hq).l1
  have hv2:=(evo_vd hq).l2
  have hvd:=tab_vd.1 q1
  have hdc:=dc_sl h.tok hvd
  rw[kd_len,hcs] at hl
  have hl1:1<=row.length/\row.length<=12:=by omega
  have hd:=row_sl hdr hl1.1
  subst hd
  have he:=eVs_len row
  have hm:=eVs_mem row
  rw[hf] at hF hR
  rw[if_pos ⟨hq,rfl⟩] at hR
  unfold bwV at hR
  have hn0:(([]:List (List D))++eVs row).length=(eVs row).length:=rfl
  have hbb:∀b:Bool,(bif b then false else false)=false:=λb=>by cases b<;>rfl
  have hcl:=eCs_len x.t.cs
  have hmC:=eCs_mem x.t.cs
  have hcb:(eCs x.t.cs).length<=12:=by have:=hvd.l2;omega
  unfold evoT at hl
  by_cases k1:c.k=1
  ·rw[if_pos k1] at hR hl
   dsimp only at hl
   rw[List.length_append,List.length_singleton] at hl
   have ee:(List.take ((((eVs row).length:Int)-1).toNat-(0:Int).toNat) (List.drop (0:Int).toNat (eVs row)))=eVs (row.take x.t.cs.length):=by
    rw[show(((eVs row).length:Int)-1).toNat=x.t.cs.length by omega]
    show List.take _ (eVs row)=_
    rw[eVs_tk];rfl
   have hmA:∀e∈(List.take ((((eVs row).length:Int)-1).toNat-(0:Int).toNat) (List.drop (0:Int).toNat (eVs row))),e.length=3:=λe h=>hm e (List.mem_of_mem_drop (List.mem_of_mem_take h))
   have hlA:((List.take ((((eVs row).length:Int)-1).toNat-(0:Int).toNat) (List.drop (0:Int).toNat (eVs row)))).length<=12:=by rw[ee,eVs_len,List.length_take];omega
   have hb1:(([]:List (List D)).length+((List.take ((((eVs row).length:Int)-1).toNat-(0:Int).toNat) (List.drop (0:Int).toNat (eVs row)))).length)*32<=140737488355328/\([]:List (List D)).length+((List.take ((((eVs row).length:Int)-1).toNat-(0:Int).toNat) (List.drop (0:Int).toNat (eVs row)))).length<=9223372036854775807:=by simp only[List.length_nil];omega
   rw[<- ee] at hR
   clear hq h hf q4 q5 hb ee hcs hlA
   obtain⟨⟨nm,cs,ks,fs,xs⟩,dc,dk,df,dx⟩:=x
   obtain⟨ck,cnm,to,⟨cn,cck,cl⟩,⟨vk,vn,vs⟩⟩:=c
   dsimp only at k1
   subst k1
   subst hR
   refine F.bt_ref15_Backward.go mixed rfl ?_
   repeat' first|refine st ?_|((with_reducible first|apply k_pn|apply k_pc);(·first|exact hA|exact hK|exact hF|exact hI))|(with_reducible first|apply k_d|apply k_b)<;>intro _
   all_goals first|rfl|(simp only[hbb];rfl)
  obtain⟨i,co,hi,hco,hcn,hus,h4,h3⟩:=chg_inv (q5 k1)
  have hil:=(List.getElem?_eq_some_iff.1 hco).1
  rw[if_neg k1,hi,Int.toNat_natCast] at hR
  rw[if_neg k1,hi,Int.toNat_natCast] at hl
  rw[hi] at hI
  by_cases k2:c.k=2
  ·rw[if_pos k2] at hR hl
   dsimp only at hl
   rw[List.length_eraseIdx,if_pos hil] at hl
   have hN:=C.r7_Null
   have ee:(List.take (((i:Nat):Int).toNat-(0:Int).toNat) (List.drop (0:Int).toNat (eVs row)))++[vNull.ds]++(List.take (((eVs row).length:Int).toNat-(((i:Nat):Int)).toNat) (List.drop (((i:Nat):Int)).toNat (eVs row)))=eVs (row.take i++vNull::row.drop i):=by
    rw[Int.toNat_natCast,Int.toNat_natCast,List.take_of_length_le (l:=List.drop i (eVs row)) (by rw[List.length_drop];exact Nat.le_refl _)]
    show List.take i (eVs row)++_++_=_
    rw[eVs_tk,eVs_dr,show row.take i++vNull::row.drop i=row.take i++[vNull]++row.drop i by simp,<- eVs_join,<- eVs_join];rfl
   rw[<- ee] at hR
   have hls:((List.take (((i:Nat):Int).toNat-(0:Int).toNat) (List.drop (0:Int).toNat (eVs row)))).length=i:=by
    show(List.take i (eVs row)).length=i
    rw[List.length_take];omega
   have hls2:((List.take (((eVs row).length:Int).toNat-(((i:Nat):Int)).toNat) (List.drop (((i:Nat):Int)).toNat (eVs row)))).length<=12:=by
    have h1:=List.length_take_le (((eVs row).length:Int).toNat-(((i:Nat):Int)).toNat) (List.drop (((i:Nat):Int)).toNat (eVs row))
    have h2:(List.drop (((i:Nat):Int)).toNat (eVs row)).length<=(eVs row).length:=by rw[List.length_drop];omega
    omega
   have hmA:∀e∈(List.take (((i:Nat):Int).toNat-(0:Int).toNat) (List.drop (0:Int).toNat (eVs row))),e.length=3:=λe h=>hm e (List.mem_of_mem_drop (List.mem_of_mem_take h))
   have hmB:∀e∈(List.take (((eVs row).length:Int).toNat-(((i:Nat):Int)).toNat) (List.drop (((i:Nat):Int)).toNat (eVs row))),e.length=3:=λe h=>hm e (List.mem_of_mem_drop (List.mem_of_mem_take h))
   have hb1:(([]:List (List D)).length+((List.take (((i:Nat):Int).toNat-(0:Int).toNat) (List.drop (0:Int).toNat (eVs row)))).length)*32<=140737488355328/\([]:List (List D)).length+((List.take (((i:Nat):Int).toNat-(0:Int).toNat) (List.drop (0:Int).toNat (eVs row)))).length<=9223372036854775807:=by rw[hls];simp only[List.length_nil];omega
   have hb2:(([]:List (List D))++(List.take (((i:Nat):Int).toNat-(0:Int).toNat) (List.drop (0:Int).toNat (eVs row)))).length=i:=hls
   have hb4:((([]:List (List D))++(List.take (((i:Nat):Int).toNat-(0:Int).toNat) (List.drop (0:Int).toNat (eVs row)))).length+[vNull.ds].length)*32<=140737488355328/\(([]:List (List D))++(List.take (((i:Nat):Int).toNat-(0:Int).toNat) (List.drop (0:Int).toNat (eVs row)))).length+[vNull.ds].length<=9223372036854775807:=by rw[hb2];simp only[List.length_cons,List.length_nil];omega
   have hb5:(([]:List (List D))++(List.take (((i:Nat):Int).toNat-(0:Int).toNat) (List.drop (0:Int).toNat (eVs row)))++[vNull.ds]).length=i+1:=by rw[List.length_append,hb2];rfl
   have hb3:((([]:List (List D))++(List.take (((i:Nat):Int).toNat-(0:Int).toNat) (List.drop (0:Int).toNat (eVs row)))++[vNull.ds]).length+((List.take (((eVs row).length:Int).toNat-(((i:Nat):Int)).toNat) (List.drop (((i:Nat):Int)).toNat (eVs row)))).length)*32<=140737488355328/\(([]:List (List D))++(List.take (((i:Nat):Int).toNat-(0:Int).toNat) (List.drop (0:Int).toNat (eVs row)))++[vNull.ds]).length+((List.take (((eVs row).length:Int).toNat-(((i:Nat):Int)).toNat) (List.drop (((i:Nat):Int)).toNat (eVs row)))).length<=9223372036854775807:=by rw[hb5];omega
   clear hq h hf q4 q5 hb ee hco h4 h3 hus hcs
   obtain⟨⟨nm,cs,ks,fs,xs⟩,dc,dk,df,dx⟩:=x
   obtain⟨ck,cnm,to,⟨cn,cck,cl⟩,⟨vk,vn,vs⟩⟩:=c
   dsimp only at k2 hil hl
   subst k2
   subst hR
   refine F.bt_ref15_Backward.go mixed rfl ?_
   repeat' first|refine st ?_|((with_reducible first|apply k_pn|apply k_pc);(·first|exact hA|exact hK|exact hF|exact hI|exact hN))|(with_reducible first|apply k_d|apply k_b)<;>intro _
   all_goals first|rfl|(simp only[hbb];rfl)
  rw[if_neg k2] at hR hl
  have hl:row.length=x.t.cs.length:=by
   rw[hl];split<;>simp
  by_cases k4:c.k=4
  ·rw[if_pos k4] at hR
   obtain⟨v,hw⟩:∃v,row[i]?=some v:=⟨_,List.getElem?_eq_getElem (by omega)⟩
   have hgd:row.getD i vNull=v:=by rw[List.getD_eq_getElem?_getD,hw];rfl
   have hvs:=hb v (List.mem_of_getElem? hw)
   have hck:ckAt x.t (i:Int)=co.k:=by unfold ckAt;rw[Int.toNat_natCast,hco]
   rw[hgd,hck] at hR
   have hg:(eVs row)[((i:Nat):Int).toNat]?=some v.ds:=eVs_get hw
   have hgc:(eCs x.t.cs)[((i:Nat):Int).toNat]?=some co.ds:=eCs_get hco
   have hP:=C.r7_Parse v.s (by omega)
   have hN:=C.r7_Null
   have hvk:v.k=0\/v.k=2:=by
    have h1:=((fits_iff _ _).1 hf).2 i v 2 hw (by
     rw[hcs,kd_get]
     unfold evoT
     rw[if_neg k1,if_neg k2,if_neg (by omega:¬c.k=3),hi,Int.toNat_natCast]
     dsimp only
     rw[List.getElem?_set_self hil];rfl)
    exact h1.2
   rw[<- eVs_put] at hR
   unfold bkV at hR
   obtain⟨⟨⟨pk,pn,ps⟩,pe⟩,hpp⟩:∃p,p=vPar v.s:=⟨_,rfl⟩
   rw[<- hpp] at hP hR
   dsimp only at hP hR
   unfold TD.av at hA ⊢
   rw[hdc] at hA hI ⊢
   obtain⟨Cs,hCs⟩:∃z,z=eCs x.t.cs:=⟨_,rfl⟩
   rw[<- hCs] at hgc hcl hmC hcb hA hI ⊢
   have hilC:(i:Int)<Cs.length:=by omega
   clear hq h hf q4 q5 hb hco h4 h3 hus hgd hw hpp hck hcs hdc hCs hvd
   obtain⟨⟨nm,cs,ks,fs,xs⟩,dc,dk,df,dx⟩:=x
   obtain⟨ck,cnm,to,⟨cn,cck,cl⟩,⟨vk,vn,vs⟩⟩:=c
   obtain⟨wk,wn,ws⟩:=v
   obtain⟨con,cok,conl⟩:=co
   dsimp only at hA hI k4 hil hl hvk hR hP
   subst k4
   refine F.bt_ref15_Backward.go mixed rfl ?_
   by_cases g1:pe=0
   rotate_left
   ·rw[if_pos (.inl g1)] at hR
    subst hR
    repeat' first|refine st ?_|((with_reducible first|apply k_pn|apply k_pc);(·first|exact hA|exact hK|exact hF|exact hI|exact hN|exact hP))|(with_reducible first|apply k_d|apply k_b)<;>intro _
    all_goals first|rfl|(simp only[hbb];rfl)
   subst g1
   by_cases g3:pk=cok
   rotate_left
   ·rw[if_pos (.inr (.inr g3))] at hR
    subst hR
    repeat' first|refine st ?_|((with_reducible first|apply k_pn|apply k_pc);(·first|exact hA|exact hK|exact hF|exact hI|exact hN|exact hP))|(with_reducible first|apply k_d|apply k_b)<;>intro _
    all_goals first|rfl|(simp only[hbb];rfl)
   subst g3
   by_cases g2:wk=0
   ·rw[if_pos (.inr (.inl (by omega)))] at hR
    subst hR
    subst g2
    repeat' first|refine st ?_|((with_reducible first|apply k_pn|apply k_pc);(·first|exact hA|exact hK|exact hF|exact hI|exact hN|exact hP))|(with_reducible first|apply k_d|apply k_b)<;>intro _
    all_goals first|rfl|(simp only[hbb];rfl)
   ·rw[if_neg (by rintro(e|e|e);exact e rfl;exact e (by omega);exact e rfl)] at hR
    subst hR
    obtain rfl:wk=2:=by omega
    repeat' first|refine st ?_|((with_reducible first|apply k_pn|apply k_pc);(·first|exact hA|exact hK|exact hF|exact hI|exact hN|exact hP))|(with_reducible first|apply k_d|apply k_b)<;>intro _
    all_goals first|rfl|(exfalso;rename_i hh;exact hh rfl)|(simp only[hbb];rfl)
  ·rw[if_neg k4] at hR
   clear hq h hf q4 q5 hb hco h4 h3 hus hcs
   obtain⟨⟨nm,cs,ks,fs,xs⟩,dc,dk,df,dx⟩:=x
   obtain⟨ck,cnm,to,⟨cn,cck,cl⟩,⟨vk,vn,vs⟩⟩:=c
   dsimp only at k1 k2 k4 hil hl
   subst hR
   refine F.bt_ref15_Backward.go mixed rfl ?_
   repeat' first|refine st ?_|((with_reducible first|apply k_pn|apply k_pc);(·first|exact hA|exact hK|exact hF|exact hI))|(with_reducible first|apply k_d|apply k_b)<;>intro _
   all_goals first|rfl|(simp only[hbb];rfl)
end Go.Proofs
end
section
namespace Go.Proofs
open Go.Bi
def fwN(S:List St)(row:List Vl):List Vl:=S.foldl (λr s=>fwV s.x.t s.c r) row
def bwN(S:List St)(row:List Vl):List Vl:=S.foldr (λs r=>bwV s.x.t s.c r) row
theorem fwN_snoc(S:List St)(a p:Nat)(s:St)(row:List Vl)(hap:a<=p)(h:S[p]?=some s):fwN ((S.drop a).take (p+1-a)) row=fwV s.x.t s.c (fwN ((S.drop a).take (p-a)) row):=by
 have e:(S.drop a)[p-a]?=some s:=by rw[List.getElem?_drop,show a+(p-a)=p by omega];exact h
 unfold fwN
 rw[show p+1-a=(p-a)+1 by omega,List.take_add_one,e,List.foldl_append]
 rfl
theorem bwN_cons(S:List St)(a p:Nat)(s:St)(row:List Vl)(hpa:p<a)(h:S[p]?=some s):bwN ((S.drop p).take (a-p)) row=bwV s.x.t s.c (bwN ((S.drop (p+1)).take (a-(p+1))) row):=by
 obtain⟨hlt,he⟩:=List.getElem?_eq_some_iff.1 h
 rw[List.drop_eq_getElem_cons hlt,he,show a-p=(a-(p+1))+1 by omega,List.take_succ_cons]
 rfl
theorem fwN_self(S:List St)(a:Nat)(row:List Vl):fwN ((S.drop a).take (a-a)) row=row:=by simp[fwN]
theorem bwN_self(S:List St)(a:Nat)(row:List Vl):bwN ((S.drop a).take (a-a)) row=row:=by simp[bwN]
def vK(x:TD)(l:List Ch)(i:Nat):List Int:=kd (chn x (l.take i)).t.cs
theorem vK_succ{x:TD}{l:List Ch}{i:Nat}{c:Ch}(hb:stB x l=true)(h:l[i]?=some c):vK x l (i+1)=kd (evoT (chn x (l.take i)).t c).cs:=by
 unfold vK
 rw[take_one h,chn_snoc,to_evo (stB_get hb h)]
theorem fits_fwN{x:TD}{l:List Ch}(hb:stB x l=true){a:Nat}{row:List Vl}(hf:fits row (vK x l a)=true):∀k,a+k<=l.length->fits (fwN (((stL x l).drop a).take k) row) (vK x l (a+k))=true
 |0,_=>by simpa[fwN] using hf
 |k+1,hk=>by
  have ih:=fits_fwN hb hf k (by omega)
  obtain⟨c,hc⟩:∃c,l[a+k]?=some c:=⟨_,List.getElem?_eq_getElem (by omega)⟩
  have hs:=fwN_snoc (stL x l) a (a+k) _ row (by omega) (stL_get (x:=x) hc)
  rw[show a+k+1-a=k+1 by omega,show a+k-a=k by omega] at hs
  rw[hs,show a+(k+1)=a+k+1 by omega,vK_succ hb hc]
  exact fits_fw (stB_get hb hc) ih
theorem fits_bwN{x:TD}{l:List Ch}(hb:stB x l=true){a:Nat}(ha:a<=l.length){row:List Vl}(hf:fits row (vK x l a)=true):∀k,k<=a->fits (bwN (((stL x l).drop (a-k)).take k) row) (vK x l (a-k))=true
 |0,_=>by simpa[bwN] using hf
 |k+1,hk=>by
  have ih:=fits_bwN hb ha hf k (by omega)
  obtain⟨c,hc⟩:∃c,l[a-(k+1)]?=some c:=⟨_,List.getElem?_eq_getElem (by omega)⟩
  have hs:=bwN_cons (stL x l) a (a-(k+1)) _ row (by omega) (stL_get (x:=x) hc)
  rw[show a-(a-(k+1))=k+1 by omega,show a-(a-(k+1)+1)=k by omega,show a-(k+1)+1=a-k by omega] at hs
  rw[hs]
  have h2:=vK_succ hb hc
  rw[show a-(k+1)+1=a-k by omega] at h2
  rw[h2] at ih
  exact fits_bw (stB_get hb hc) ih
def cnvR(x:TD)(l:List Ch)(a b:Nat)(row:List Vl):List Vl:=if a<=b then fwN (((stL x l).drop a).take (b-a)) row else bwN (((stL x l).drop b).take (a-b)) row
end Go.Proofs
end
section
namespace Go.Proofs
open Go.Bi
def saT:Tb:=⟨[116],[⟨[97],1,false⟩,⟨[98],1,true⟩],[0],[],[]⟩
def saA:Ch:=⟨1,[],[],⟨[99],1,true⟩,⟨1,7,[]⟩⟩
def saX:Ch:=⟨4,[98],[],⟨[],0,false⟩,⟨0,0,[]⟩⟩
def saD:TD:=⟨saT,.sl (eCs saT.cs),.sl (eIs saT.ks),.nil,.nil⟩
theorem saD_ok:saD.ok:=
 ⟨⟨by decide,by decide,by decide,by decide,by decide,λf hf=>by simp[saD,saT] at hf,by decide,λe he=>by simp[saD,saT] at he,sld_sl,sld_sl,sld_nil,sld_nil⟩,λe he=>by simp[saD,saT] at he⟩
theorem saA_ok:Cok saA:=⟨by decide,by decide,by decide,by decide⟩
theorem saX_ok:Cok saX:=⟨by decide,by decide,by decide,by decide⟩
theorem sa_evo:evoE saT saA=0/\evoE saT saX=0:=⟨by kernel_rfl,by kernel_rfl⟩
abbrev w1:Vl:=⟨1,1,[]⟩
abbrev w7:Vl:=⟨1,7,[]⟩
abbrev t7:Vl:=⟨2,0,[55]⟩
abbrev t07:Vl:=⟨2,0,[48,55]⟩
theorem tx_w7:txV w7=t7:=by
 have h:Lib.itoa 7=[55]:=by
  have:=Lib.itoa_nonneg 7
  rw[Lib.decDigits_one (by decide)] at this
  exact this
 have hv:vValid w7=true:=by decide
 have hl:vLit w7=[55]:=by
  unfold vLit
  rw[hv,if_neg (by decide),if_pos rfl,h]
 unfold txV
 rw[if_neg (show ¬(1:Int)=0 by decide),hl]
 decide
theorem sa1:fwD saT saA [w1,w1]=.sl (eVs [w1,w1,w7]):=by
 unfold fwD
 rw[if_pos ⟨sa_evo.1,by decide⟩];rfl
theorem sa2:bwD saT saA [w1,w1,w1]=.sl (eVs [w1,w1]):=by
 unfold bwD
 rw[if_pos ⟨sa_evo.1,by decide⟩];rfl
theorem sa3:fwD saT saX [w1,w7]=.sl (eVs [w1,t7]):=by
 unfold fwD
 rw[if_pos ⟨sa_evo.2,by decide⟩]
 have:fwV saT saX [w1,w7]=[w1,txV w7]:=rfl
 rw[this,tx_w7]
theorem sa4:bwD saT saX [w1,t07]=.sl (eVs [w1,vNull]):=by
 unfold bwD
 rw[if_pos ⟨sa_evo.2,by decide⟩];kernel_rfl
theorem sa5:bwD saT saX [w1,t7]=.sl (eVs [w1,w7]):=by
 unfold bwD
 rw[if_pos ⟨sa_evo.2,by decide⟩];kernel_rfl
theorem C.law15_awake:Pure Tryz.prog N.bt_law15_awake [] (.d (.bool true)):=by
 have hI1:Bi.Pure Tryz.prog N.bt_ref07_Int [.d (eI 1)] (eV ⟨1,1,[]⟩):=C.r7_Int 1
 have hI7:Bi.Pure Tryz.prog N.bt_ref07_Int [.d (eI 7)] (eV ⟨1,7,[]⟩):=C.r7_Int 7
 have hT7:Bi.Pure Tryz.prog N.bt_ref07_Text [.d (.str [55])] (eV ⟨2,0,[55]⟩):=C.r7_Text [55] (by decide)
 have hT07:Bi.Pure Tryz.prog N.bt_ref07_Text [.d (.str [48,55])] (eV ⟨2,0,[48,55]⟩):=C.r7_Text [48,55] (by decide)
 have hN:=C.r7_Null
 have h1:=C.mapping_Forward saD saD_ok saA saA_ok [w1,w1] (by decide) (by decide) (.sl (eVs [w1,w1])) (.inr rfl)
 have h2:=C.mapping_Backward saD saD_ok saA saA_ok [w1,w1,w1] (by decide) (by decide) (.sl (eVs [w1,w1,w1])) (.inr rfl)
 have h3:=C.mapping_Forward saD saD_ok saX saX_ok [w1,w7] (by decide) (by decide) (.sl (eVs [w1,w7])) (.inr rfl)
 have h4:=C.mapping_Backward saD saD_ok saX saX_ok [w1,t07] (by decide) (by decide) (.sl (eVs [w1,t07])) (.inr rfl)
 have h5:=C.mapping_Backward saD saD_ok saX saX_ok [w1,t7] (by decide) (by decide) (.sl (eVs [w1,t7])) (.inr rfl)
 rw[show saD.t=saT from rfl,sa1] at h1
 rw[show saD.t=saT from rfl,sa2] at h2
 rw[show saD.t=saT from rfl,sa3] at h3
 rw[show saD.t=saT from rfl,sa4] at h4
 rw[show saD.t=saT from rfl,sa5] at h5
 have e1:=C.r8_Equal_refl [w1,w1,w7] (by decide) _ _ (.inr rfl) (.inr rfl)
 have e2:=C.r8_Equal_refl [w1,t7] (by decide) _ _ (.inr rfl) (.inr rfl)
 have e3:=C.r8_Equal_refl [w1,w7] (by decide) _ _ (.inr rfl) (.inr rfl)
 have e4:=C.r8_Equal_refl [w1,vNull] (by decide) _ _ (.inr rfl) (.inr rfl)
 refine F.bt_law15_awake.go mixed rfl ?_
 repeat' first|refine st ?_|((with_reducible first|apply k_pn|apply k_pc);(·first|exact hI1|exact hI7|exact hT7|exact hT07|exact hN|exact h1|exact h2|exact h3|exact h4|exact h5|exact e1|exact e2|exact e3|exact e4))|(with_reducible first|apply k_d|apply k_b)<;>intro _
 all_goals rfl
end Go.Proofs
end
section
namespace Go.Proofs
open Go.Bi
theorem cnvR_fw{x:TD}{l:List Ch}{a b:Nat}(h:a<=b)(row:List Vl):cnvR x l a b row=fwN (((stL x l).drop a).take (b-a)) row:=by unfold cnvR;rw[if_pos h]
theorem cnvR_bw{x:TD}{l:List Ch}{a b:Nat}(h:b<=a)(row:List Vl):cnvR x l a b row=bwN (((stL x l).drop b).take (a-b)) row:=by
 unfold cnvR
 by_cases e:a=b
 ·subst e;rw[if_pos (Nat.le_refl _),fwN_self,bwN_self]
 ·rw[if_neg (by omega)]
theorem erase_at{α:Type}(row:List α)(i j:Nat)(h:i≠j):(row.eraseIdx i)[(belowI (j:Int) i).toNat]?=row[j]?:=by
 unfold belowI
 rw[List.getElem?_eraseIdx]
 split
 ·rw[if_neg (by omega)]
  congr 1
  omega
 ·rw[if_pos (by omega)];rfl
theorem fw_keep{t:Tb}{c:Ch}(h:evoE t c=0)(h4:c.k≠4){row:List Vl}(hf:fits row (kd t.cs)=true){j:Int}{v:Vl}(hj:0<=j)(hv:row[j.toNat]?=some v):idxE t c j=-1\/(0<=idxE t c j/\(fwV t c row)[(idxE t c j).toNat]?=some v):=by
 obtain⟨q1,q2,q3,q4,q5⟩:=evo_inv h
 have hl:=(fits_bd hf).1
 rw[kd_len] at hl
 have hjl:=(List.getElem?_eq_some_iff.1 hv).1
 unfold idxE
 rw[if_neg (by omega)]
 unfold fwV
 by_cases k1:c.k=1
 ·rw[if_pos (by omega),if_pos k1]
  right
  refine⟨hj,?_⟩
  rw[List.getElem?_append_left hjl];exact hv
 ·rw[if_neg k1]
  by_cases k2:c.k=2
  ·rw[if_neg (by omega),if_pos k2]
   obtain⟨i,co,hi,hco,_⟩:=chg_inv (q5 k1)
   rw[hi]
   by_cases hij:(i:Int)=j
   ·rw[if_pos hij];exact .inl rfl
   ·rw[if_neg hij]
    right
    obtain⟨n,rfl⟩:∃n:Nat,j=n:=⟨j.toNat,by omega⟩
    have e:=erase_at row i n (by omega)
    rw[Int.toNat_natCast] at hv
    refine⟨?_,?_⟩
    ·unfold belowI;split<;>omega
    ·rw[Int.toNat_natCast,e];exact hv
  ·rw[if_pos k2,if_neg k2,if_neg h4]
   exact .inr ⟨hj,hv⟩
theorem bw_keep{t:Tb}{c:Ch}(h:evoE t c=0)(h4:c.k≠4){row:List Vl}(hf:fits row (kd (evoT t c).cs)=true){j:Int}{v:Vl}(hj:0<=j)(hv:row[j.toNat]?=some v):bkT t c j=-1\/(0<=bkT t c j/\(bwV t c row)[(bkT t c j).toNat]?=some v):=by
 obtain⟨q1,q2,q3,q4,q5⟩:=evo_inv h
 have hl:=(fits_bd hf).1
 rw[kd_len] at hl
 have hjl:=(List.getElem?_eq_some_iff.1 hv).1
 unfold bkT bwV
 unfold evoT at hl
 by_cases k1:c.k=1
 ·rw[if_pos k1] at hl ⊢
  dsimp only at hl
  rw[List.length_append,List.length_singleton] at hl
  by_cases e:j=(t.cs.length:Int)
  ·rw[if_pos ⟨k1,e⟩];exact .inl rfl
  ·rw[if_neg (λh=>e h.2),if_neg (by omega)]
   right
   refine⟨hj,?_⟩
   rw[List.getElem?_take_of_lt (by omega)];exact hv
 ·rw[if_neg (λh=>k1 h.1),if_neg k1]
  by_cases k2:c.k=2
  ·rw[if_pos k2]
   obtain⟨i,co,hi,hco,_⟩:=chg_inv (q5 k1)
   have hil:=(List.getElem?_eq_some_iff.1 hco).1
   rw[if_neg k1,if_pos k2,hi,Int.toNat_natCast] at hl
   dsimp only at hl
   rw[List.length_eraseIdx,if_pos hil] at hl
   rw[hi]
   right
   by_cases hij:(i:Int)<=j
   ·rw[if_pos ⟨k2,hij⟩]
    refine⟨by omega,?_⟩
    rw[Int.toNat_natCast,List.getElem?_append_right (by rw[List.length_take];omega),List.length_take,Nat.min_eq_left (by omega),show(j+1).toNat-i=(j.toNat-i)+1 by omega,List.getElem?_cons_succ,List.getElem?_drop,show i+(j.toNat-i)=j.toNat by omega]
    exact hv
   ·rw[if_neg (λh=>hij h.2)]
    refine⟨hj,?_⟩
    rw[Int.toNat_natCast,List.getElem?_append_left (by rw[List.length_take];omega),List.getElem?_take_of_lt (by omega)]
    exact hv
  ·rw[if_neg (λh=>k2 h.1),if_neg k2,if_neg h4]
   exact .inr ⟨hj,hv⟩
theorem idxE_m1(t:Tb)(c:Ch):idxE t c (-1)=-1:=by unfold idxE;rw[if_pos (.inr (.inl (by decide)))]
theorem keep_fw{x:TD}{l:List Ch}(hb:stB x l=true){a:Nat}{row:List Vl}(hf:fits row (vK x l a)=true){j:Int}{v:Vl}(hj:0<=j)(hv:row[j.toNat]?=some v):∀k,a+k<=l.length->(∀(i:Nat) c,a<=i->i<a+k->l[i]?=some c->c.k≠4)->
  fwI (((stL x l).drop a).take k) j=-1\/(0<=fwI (((stL x l).drop a).take k) j/\(fwN (((stL x l).drop a).take k) row)[(fwI (((stL x l).drop a).take k) j).toNat]?=some v)
 |0,_,_=>.inr ⟨hj,by simpa[fwN,fwI] using hv⟩
 |k+1,hk,hl=>by
  have ih:=keep_fw hb hf hj hv k (by omega) λi c h1 h2 h3=>hl i c h1 (by omega) h3
  obtain⟨c,hc⟩:∃c,l[a+k]?=some c:=⟨_,List.getElem?_eq_getElem (by omega)⟩
  have hff:=fits_fwN hb hf k (by omega)
  have h1:=fwI_snoc (stL x l) a (a+k) _ j (by omega) (stL_get (x:=x) hc)
  have h2:=fwN_snoc (stL x l) a (a+k) _ row (by omega) (stL_get (x:=x) hc)
  rw[show a+k+1-a=k+1 by omega,show a+k-a=k by omega] at h1 h2
  rw[h1,h2]
  dsimp only
  rcases ih with e|⟨e1,e2⟩
  ·rw[e];exact .inl (idxE_m1 _ _)
  ·exact fw_keep (stB_get hb hc) (hl _ c (by omega) (by omega) hc) hff e1 e2
theorem keep_bw{x:TD}{l:List Ch}(hb:stB x l=true){a:Nat}(ha:a<=l.length){row:List Vl}(hf:fits row (vK x l a)=true){j:Int}{v:Vl}(hj:0<=j)(hv:row[j.toNat]?=some v):∀k,k<=a->(∀(i:Nat) c,a-k<=i->i<a->l[i]?=some c->c.k≠4)->
  bwI (((stL x l).drop (a-k)).take k) j=-1\/(0<=bwI (((stL x l).drop (a-k)).take k) j/\(bwN (((stL x l).drop (a-k)).take k) row)[(bwI (((stL x l).drop (a-k)).take k) j).toNat]?=some v)
 |0,_,_=>.inr ⟨hj,by simpa[bwN,bwI] using hv⟩
 |k+1,hk,hl=>by
  have ih:=keep_bw hb ha hf hj hv k (by omega) λi c h1 h2 h3=>hl i c (by omega) h2 h3
  obtain⟨c,hc⟩:∃c,l[a-(k+1)]?=some c:=⟨_,List.getElem?_eq_getElem (by omega)⟩
  have hff:=fits_bwN hb ha hf k (by omega)
  have h1:=bwI_cons (stL x l) a (a-(k+1)) _ j (by omega) (stL_get (x:=x) hc)
  have h2:=bwN_cons (stL x l) a (a-(k+1)) _ row (by omega) (stL_get (x:=x) hc)
  rw[show a-(a-(k+1))=k+1 by omega,show a-(a-(k+1)+1)=k by omega,show a-(k+1)+1=a-k by omega] at h1 h2
  rw[h1,h2]
  unfold bkI
  dsimp only
  have h3:=vK_succ hb hc
  rw[show a-(k+1)+1=a-k by omega] at h3
  rw[h3] at hff
  rcases ih with e|⟨e1,e2⟩
  ·rw[e];exact .inl (bkT_neg (stB_get hb hc))
  ·exact bw_keep (stB_get hb hc) (hl _ c (by omega) (by omega) hc) hff e1 e2
structure Va(x:TD)(l:List Ch)(a b:Nat)(row:List Vl):Prop where
 t:tabE x.t=0
 s:stB x l=true
 la:a<=l.length
 lb:b<=l.length
 f:fits row (vK x l a)=true
theorem Va.e{x:TD}{l:List Ch}{a b:Nat}{row:List Vl}(h:Va x l a b row):stE x l=true:=by unfold stE;rw[h.t,h.s];rfl
theorem keeps{x:TD}{l:List Ch}{a b:Nat}{row:List Vl}(h:Va x l a b row){j:Int}{v:Vl}(hj:0<=j)(hv:row[j.toNat]?=some v)(hl:∀(i:Nat) c,min a b<=i->i<max a b->l[i]?=some c->c.k≠4) :
  colM x l a b j=-1\/(0<=colM x l a b j/\(cnvR x l a b row)[(colM x l a b j).toNat]?=some v):=by
 have hjl:=(List.getElem?_eq_some_iff.1 hv).1
 have hrl:=(fits_bd h.f).1
 have ha:=h.la
 have hb:=h.lb
 unfold vK at hrl
 rw[kd_len] at hrl
 have e:colM x l a b j=if a<=b then fwI (((stL x l).drop a).take (b-a)) j else bwI (((stL x l).drop b).take (a-b)) j:=by
  unfold colM
  rw[if_neg]
  ·simp only[Int.toNat_natCast]
   by_cases hab:a<=b
   ·rw[if_pos hab,if_pos (by omega)]
   ·rw[if_neg hab,if_neg (by omega)]
  ·rw[h.e,Int.toNat_natCast]
   rintro(e|e|e|e|e|e|e)<;>first|omega|cases e
 rw[e]
 by_cases hab:a<=b
 ·rw[if_pos hab,cnvR_fw hab]
  exact keep_fw h.s h.f hj hv (b-a) (by omega) λi c h1 h2 h3=>hl i c (by omega) (by omega) h3
 ·rw[if_neg hab,cnvR_bw (by omega)]
  have:=keep_bw h.s h.la h.f hj hv (a-b) (by omega) λi c h1 h2 h3=>hl i c (by omega) (by omega) h3
  rwa [show a-(a-b)=b by omega] at this
end Go.Proofs
end
section
namespace Go.Proofs
open Go.Bi
theorem fwD_row(t:Tb)(c:Ch)(row:List Vl):∃r,SlD (fwD t c row) (eVs r)/\r.length<=1048576:=by
 unfold fwD
 split
 ·rename_i h
  have h1:=(fits_bd (fits_fw h.1 h.2)).1
  have h2:=(evo_vd h.1).l2
  rw[kd_len] at h1
  exact⟨_,.inr rfl,by omega⟩
 ·exact⟨[],sld_nil,by decide⟩
theorem bwD_row(t:Tb)(c:Ch)(row:List Vl):∃r,SlD (bwD t c row) (eVs r)/\r.length<=1048576:=by
 unfold bwD
 split
 ·rename_i h
  have h1:=(fits_bd (fits_bw h.1 h.2)).1
  have h2:=(tab_vd.1 (evo_inv h.1).1).l2
  rw[kd_len] at h1
  exact⟨_,.inr rfl,by omega⟩
 ·exact⟨[],sld_nil,by decide⟩
theorem C.eq_self{q:D}{r:List Vl}(h:SlD q (eVs r))(hl:r.length<=1048576):Pure Tryz.prog N.bt_ref08_Equal [.d q,.d q] (.d (.bool true)):=C.r8_Equal_refl r hl q q h h
theorem L.MappingSteps(x:TD)(h:x.ok)(c:Ch)(hc:Cok c)(row:List Vl)(hr:row.length<=1048576)(hrs:∀v∈row,v.s.length<=1048576)(dr:D)(hdr:SlD dr (eVs row)) :
  Pure Tryz.prog N.bt_law15_MappingSteps [x.av,c.av,.d dr] (.d (.bool true)):=by
 have h1:=C.mapping_Forward x h c hc row hr hrs dr hdr
 have h2:=C.r15_Forward x h c hc row hr hrs dr hdr
 have h3:=C.mapping_Backward x h c hc row hr hrs dr hdr
 have h4:=C.r15_Backward x h c hc row hr hrs dr hdr
 obtain⟨r1,k1,k2⟩:=fwD_row x.t c row
 obtain⟨r2,k3,k4⟩:=bwD_row x.t c row
 obtain⟨q1,hq1⟩:∃q,q=fwD x.t c row:=⟨_,rfl⟩
 obtain⟨q2,hq2⟩:∃q,q=bwD x.t c row:=⟨_,rfl⟩
 rw[<- hq1] at h1 h2 k1
 rw[<- hq2] at h3 h4 k3
 have e1:=C.eq_self k1 k2
 have e2:=C.eq_self k3 k4
 have hA:=C.law15_awake
 clear h hq1 hq2 hdr
 obtain⟨⟨nm,cs,ks,fs,xs⟩,dc,dk,df,dx⟩:=x
 obtain⟨ck,cnm,to,⟨cn,cck,cl⟩,⟨vk,vn,vs⟩⟩:=c
 refine F.bt_law15_MappingSteps.go mixed rfl ?_
 repeat' first|refine st ?_|((with_reducible first|apply k_pn|apply k_pc);(·first|exact h1|exact h2|exact h3|exact h4|exact e1|exact e2|exact hA))|(with_reducible first|apply k_d|apply k_b)<;>intro _
 all_goals rfl
end Go.Proofs
end
section
namespace Go.Proofs
open Go.Bi
abbrev T.co:TypeId:=29
abbrev T.cos:TypeId:=22
abbrev T.fo:TypeId:=79
abbrev T.fos:TypeId:=24
abbrev T.tb:TypeId:=27
theorem cells_co:Tryz.prog.cellsOf T.co=3:=by kernel_rfl
theorem cells_cos:Tryz.prog.cellsOf T.cos=1:=by kernel_rfl
theorem cells_ints:Tryz.prog.cellsOf T.ints=1:=by kernel_rfl
theorem cells_fo:Tryz.prog.cellsOf T.fo=2:=by kernel_rfl
theorem cells_fos:Tryz.prog.cellsOf T.fos=1:=by kernel_rfl
theorem cells_tb:Tryz.prog.cellsOf T.tb=5:=by kernel_rfl
theorem wt_co{ds:List D}(h:WT Tryz.prog T.co ds):∃c:Co,ds=c.ds:=by
 obtain⟨hl,hf⟩:=h.st' Tryz.underlying29
 rw[cells_co] at hl
 match ds,hl with
 |[x,y,z],_=>
  have h0:=hf _ (List.mem_cons_self ..)
  have h1:=hf _ (List.mem_cons_of_mem _ (List.mem_cons_self ..))
  have h2:=hf _ (List.mem_cons_of_mem _ (List.mem_cons_of_mem _ (List.mem_cons_self ..)))
  dsimp only at h0 h1 h2
  rw[cells_str] at h0
  rw[cells_int] at h1
  rw[cells_bool] at h2
  obtain⟨a,ha⟩:=wt_str h0
  obtain⟨b,hb⟩:=wt_int h1
  obtain⟨s,hs⟩:=wt_bool h2
  simp at ha hb hs
  exact⟨⟨a,b,s⟩,by rw[ha,hb,hs]⟩
theorem wt_cos{ds:List D}(h:WT Tryz.prog T.cos ds):∃d l,ds=[d]/\SlD d (eCs l):=by
 obtain⟨d,es,h1,h2,h4,h3⟩:=h.sl' Tryz.underlying22
 have:∃l,es=eCs l:=by
  clear h1 h2 h4
  induction es with
  |nil=>exact⟨[],rfl⟩
  |cons x es ih=>
   obtain⟨n,hn⟩:=wt_co (h3 x (by simp))
   obtain⟨ks,hk⟩:=ih λy hy=>h3 y (by simp[hy])
   exact⟨n::ks,by rw[hn,hk];rfl⟩
 obtain⟨ks,rfl⟩:=this
 exact⟨d,ks,h1,h2⟩
theorem wt_fo{ds:List D}(h:WT Tryz.prog T.fo ds):∃f:Fo,ds=f.ds:=by
 obtain⟨hl,hf⟩:=h.st' Tryz.underlying79
 rw[cells_fo] at hl
 match ds,hl with
 |[x,y],_=>
  have h0:=hf _ (List.mem_cons_self ..)
  have h1:=hf _ (List.mem_cons_of_mem _ (List.mem_cons_self ..))
  dsimp only at h0 h1
  rw[cells_ints] at h0
  rw[cells_str] at h1
  obtain⟨d,ks,ha,hd⟩:=wt_ints h0
  obtain⟨s,hs⟩:=wt_str h1
  simp at ha hs
  rcases hd with ⟨rfl,he⟩|rfl
  ·have:ks=[]:=by cases ks with
    |nil=>rfl
    |cons k ks=>cases he
   subst this
   exact⟨⟨true,[],s⟩,by rw[ha,hs];rfl⟩
  ·exact⟨⟨false,ks,s⟩,by rw[ha,hs];rfl⟩
theorem wt_fos{ds:List D}(h:WT Tryz.prog T.fos ds):∃d l,ds=[d]/\SlD d (eFs l):=by
 obtain⟨d,es,h1,h2,h4,h3⟩:=h.sl' Tryz.underlying24
 have:∃l,es=eFs l:=by
  clear h1 h2 h4
  induction es with
  |nil=>exact⟨[],rfl⟩
  |cons x es ih=>
   obtain⟨n,hn⟩:=wt_fo (h3 x (by simp))
   obtain⟨ks,hk⟩:=ih λy hy=>h3 y (by simp[hy])
   exact⟨n::ks,by rw[hn,hk];rfl⟩
 obtain⟨ks,rfl⟩:=this
 exact⟨d,ks,h1,h2⟩
theorem av_tb(n dc dk df dx:D):avOf Tryz.prog T.tb [n,dc,dk,df,dx]=.agg [.d n,.d dc,.d dk,.d df,.d dx]:=by unfold avOf;rw[Tryz.underlying27];rfl
theorem cos_bulk{d:D}{l:List Co}(h:SlD d (eCs l)):l.length<=bulkL [d]/\∀v∈l,v.nm.length<=bulkL [d]:=by
 have h1:=sld_bulk h
 have h2:(eCs l).length<=bulkLL (eCs l):=bulkLL_len λx hx=>by
  obtain⟨k,_,rfl⟩:=List.mem_map.1 hx
  simp only[Co.ds,bulkL,bulkD];omega
 rw[eCs_len] at h2
 refine⟨by omega,λv hv=>?_⟩
 have h3:bulkL v.ds<=bulkLL (eCs l):=bulkLL_mem (List.mem_map.2 ⟨v,hv,rfl⟩)
 have h4:v.nm.length<=bulkL v.ds:=by simp only[Co.ds,bulkL,bulkD];omega
 omega
theorem fos_bulk{d:D}{l:List Fo}(h:SlD d (eFs l)):l.length<=bulkL [d]/\∀f∈l,f.cs.length<=bulkL [d]/\f.tb.length<=bulkL [d]:=by
 have h1:=sld_bulk h
 have h2:(eFs l).length<=bulkLL (eFs l):=bulkLL_len λx hx=>by
  obtain⟨k,_,rfl⟩:=List.mem_map.1 hx
  simp only[Fo.ds,bulkL,bulkD];omega
 rw[eFs_len] at h2
 refine⟨by omega,λv hv=>?_⟩
 have h3:bulkL v.ds<=bulkLL (eFs l):=bulkLL_mem (List.mem_map.2 ⟨v,hv,rfl⟩)
 have h4:v.tb.length<=bulkL v.ds:=by simp only[Fo.ds,bulkL,bulkD];omega
 have h5:v.cs.length<=bulkL [v.d]:=ints_bulk v.sld
 have h6:bulkL [v.d]<=bulkL v.ds:=by simp only[Fo.ds,bulkL];omega
 omega
theorem exs_bulk{d:D}{l:List Ex}(h:SlD d (xL l)):l.length<=bulkL [d]/\∀e∈l,e.bk<=bulkL [d]:=by
 have h1:=sld_bulk h
 have h2:=xL_bulk_len l
 refine⟨by omega,λv hv=>?_⟩
 have h3:bulkL v.ds<=bulkLL (xL l):=bulkLL_mem (List.mem_map.2 ⟨v,hv,rfl⟩)
 unfold Ex.bk
 omega
theorem tb_tok{t:Tb}{dc dk df dx:D}(hb:bulkL [.str t.nm,dc,dk,df,dx]<=1048576)(hc:SlD dc (eCs t.cs))(hk:SlD dk (eIs t.ks))(hf:SlD df (eFs t.fs))(hx:SlD dx (xL t.xs)):Tok t dc dk df dx:=by
 have h1:=cos_bulk hc
 have h2:=ints_bulk hk
 have h3:=fos_bulk hf
 have h4:=exs_bulk hx
 have e:bulkL [.str t.nm,dc,dk,df,dx]=t.nm.length+1+(bulkL [dc]+(bulkL [dk]+(bulkL [df]+bulkL [dx]))):=by simp only[bulkL,bulkD];omega
 rw[e] at hb
 exact {hn:=by omega,hl:=by omega,hls:=λc hc=>Nat.le_trans (h1.2 c hc) (by omega),hk:=by omega,hfl:=by omega,hfc:=λf hf=>⟨Nat.le_trans (h3.2 f hf).1 (by omega),Nat.le_trans (h3.2 f hf).2 (by omega)⟩,hxs:=by omega,hxb:=λe he=>Nat.le_trans (h4.2 e he) (by omega),dc:=hc,dk:=hk,df:=hf,dx:=hx}
end Go.Proofs
end
section
namespace Go.Proofs
open Go.Bi
abbrev T.ch:TypeId:=33
theorem cells_ch:Tryz.prog.cellsOf T.ch=9:=by kernel_rfl
abbrev Ch.ds(c:Ch):List D:=[eI c.k,.str c.nm,.str c.to,.str c.co.nm,eI c.co.k,.bool c.co.nl,eI c.df.k,eI c.df.n,.str c.df.s]
theorem wt_ch{ds:List D}(h:WT Tryz.prog T.ch ds):∃c:Ch,ds=c.ds:=by
 obtain⟨hl,hf⟩:=h.st' Tryz.underlying33
 rw[cells_ch] at hl
 match ds,hl with
 |[d0,d1,d2,d3,d4,d5,d6,d7,d8],_=>
  have h0:=hf _ (List.mem_cons_self ..)
  have h1:=hf _ (List.mem_cons_of_mem _ (List.mem_cons_self ..))
  have h2:=hf _ (List.mem_cons_of_mem _ (List.mem_cons_of_mem _ (List.mem_cons_self ..)))
  have h3:=hf _ (List.mem_cons_of_mem _ (List.mem_cons_of_mem _ (List.mem_cons_of_mem _ (List.mem_cons_self ..))))
  have h4:=hf _ (List.mem_cons_of_mem _ (List.mem_cons_of_mem _ (List.mem_cons_of_mem _ (List.mem_cons_of_mem _ (List.mem_cons_self ..)))))
  dsimp only at h0 h1 h2 h3 h4
  rw[cells_int] at h0
  rw[cells_str] at h1 h2
  rw[cells_co] at h3
  rw[cells_val] at h4
  obtain⟨k,h0⟩:=wt_int h0
  obtain⟨nm,h1⟩:=wt_str h1
  obtain⟨to,h2⟩:=wt_str h2
  obtain⟨co,h3⟩:=wt_co h3
  obtain⟨df,h4⟩:=wt_val h4
  simp at h0 h1 h2 h3 h4
  obtain⟨e3,e4,e5⟩:=h3
  obtain⟨e6,e7,e8⟩:=h4
  exact⟨⟨k,nm,to,co,df⟩,by rw[h0,h1,h2,e3,e4,e5,e6,e7,e8]⟩
theorem av_ch(c:Ch):avOf Tryz.prog T.ch c.ds=c.av:=by unfold avOf;rw[Tryz.underlying33];rfl
theorem ch_cok{c:Ch}(hb:bulkL c.ds<=1048576):Cok c:=by
 simp only[Ch.ds,bulkL,bulkD] at hb
 exact⟨by omega,by omega,by omega,by omega⟩
end Go.Proofs
end
section
namespace Go.Proofs
open Go.Bi
abbrev TD.ds(x:TD):List D:=[.str x.t.nm,x.dc,x.dk,x.df,x.dx]
theorem wt_td{ds:List D}(h:WT Tryz.prog T.tb ds):∃x:TD,ds=x.ds/\SlD x.dc (eCs x.t.cs)/\SlD x.dk (eIs x.t.ks)/\SlD x.df (eFs x.t.fs)/\SlD x.dx (xL x.t.xs)/\x.t.Rg:=by
 obtain⟨hl,hf⟩:=h.st' Tryz.underlying27
 rw[cells_tb] at hl
 match ds,hl with
 |[d0,d1,d2,d3,d4],_=>
  have h0:=hf _ (List.mem_cons_self ..)
  have h1:=hf _ (List.mem_cons_of_mem _ (List.mem_cons_self ..))
  have h2:=hf _ (List.mem_cons_of_mem _ (List.mem_cons_of_mem _ (List.mem_cons_self ..)))
  have h3:=hf _ (List.mem_cons_of_mem _ (List.mem_cons_of_mem _ (List.mem_cons_of_mem _ (List.mem_cons_self ..))))
  have h4:=hf _ (List.mem_cons_of_mem _ (List.mem_cons_of_mem _ (List.mem_cons_of_mem _ (List.mem_cons_of_mem _ (List.mem_cons_self ..)))))
  dsimp only at h0 h1 h2 h3 h4
  rw[cells_str] at h0
  rw[cells_cos] at h1
  rw[cells_ints] at h2
  rw[cells_fos] at h3
  rw[cells_exs] at h4
  obtain⟨s,hs⟩:=wt_str h0
  obtain⟨dc,l,h1,hc⟩:=wt_cos h1
  obtain⟨dk,ks,h2,hk⟩:=wt_ints h2
  obtain⟨df,fs,h3,hf⟩:=wt_fos h3
  obtain⟨nl,xs,h4,hx⟩:=wt_exsr h4
  simp at hs h1 h2 h3 h4
  exact⟨⟨⟨s,l,ks,fs,xs⟩,dc,dk,df,ng nl (xL xs)⟩,by rw[hs,h1,h2,h3,h4],hc,hk,hf,sld_ng,hx⟩
theorem td_ok{x:TD}(hb:bulkL x.ds<=1048576)(h:SlD x.dc (eCs x.t.cs)/\SlD x.dk (eIs x.t.ks)/\SlD x.df (eFs x.t.fs)/\SlD x.dx (xL x.t.xs)/\x.t.Rg):x.ok:=
 ⟨tb_tok hb h.1 h.2.1 h.2.2.1 h.2.2.2.1,h.2.2.2.2⟩
end Go.Proofs
end
