/- Texts of this claim, joined. No condition. -/
import Derived.Test.YtlkkaepbnnakpaaGreatDoorQ10
set_option linter.unusedSimpArgs false
set_option linter.unusedVariables false
set_option maxRecDepth 10000
set_option maxHeartbeats 4000000
section
namespace Go.Proofs
open Go.Bi
def fwN(S:List St)(row:List Vl):List Vl:=S.foldl (λr s=>fwV s.x.t s.c r) row
def bwN(S:List St)(row:List Vl):List Vl:=S.foldr (λs r=>bwV s.x.t s.c r) row
theorem fwN_snoc(S:List St)(a p:Nat)(s:St)(row:List Vl)(hap:a<=p)(h:S[p]?=some s):fwN ((S.drop a).take (p+1-a)) row=fwV s.x.t s.c (fwN ((S.drop a).take (p-a)) row):=by
 have e:(S.drop a)[p-a]?=some s:=by rw[List.getElem?_drop,show a+(p-a)=p by omega];exact h
 unfold fwN
 rw[show p+1-a=(p-a)+1 by omega,List.take_add_one,e,List.foldl_append]
 rfl
theorem bwN_cons(S:List St)(a p:Nat)(s:St)(row:List Vl)(hpa:p<a)(h:S[p]?=some s):bwN ((S.drop p).take (a-p)) row=bwV s.x.t s.c (bwN ((S.drop (p+1)).take (a-(p+1))) row):=by
 obtain⟨hlt,he⟩:=List.getElem?_eq_some_iff.1 h
 rw[List.drop_eq_getElem_cons hlt,he,show a-p=(a-(p+1))+1 by omega,List.take_succ_cons]
 rfl
theorem fwN_self(S:List St)(a:Nat)(row:List Vl):fwN ((S.drop a).take (a-a)) row=row:=by simp[fwN]
theorem bwN_self(S:List St)(a:Nat)(row:List Vl):bwN ((S.drop a).take (a-a)) row=row:=by simp[bwN]
def vK(x:TD)(l:List Ch)(i:Nat):List Int:=kd (chn x (l.take i)).t.cs
theorem vK_succ{x:TD}{l:List Ch}{i:Nat}{c:Ch}(hb:stB x l=true)(h:l[i]?=some c):vK x l (i+1)=kd (evoT (chn x (l.take i)).t c).cs:=by
 unfold vK
 rw[take_one h,chn_snoc,to_evo (stB_get hb h)]
theorem fits_fwN{x:TD}{l:List Ch}(hb:stB x l=true){a:Nat}{row:List Vl}(hf:fits row (vK x l a)=true):∀k,a+k<=l.length->fits (fwN (((stL x l).drop a).take k) row) (vK x l (a+k))=true
 |0,_=>by simpa[fwN] using hf
 |k+1,hk=>by
  have ih:=fits_fwN hb hf k (by omega)
  obtain⟨c,hc⟩:∃c,l[a+k]?=some c:=⟨_,List.getElem?_eq_getElem (by omega)⟩
  have hs:=fwN_snoc (stL x l) a (a+k) _ row (by omega) (stL_get (x:=x) hc)
  rw[show a+k+1-a=k+1 by omega,show a+k-a=k by omega] at hs
  rw[hs,show a+(k+1)=a+k+1 by omega,vK_succ hb hc]
  exact fits_fw (stB_get hb hc) ih
theorem fits_bwN{x:TD}{l:List Ch}(hb:stB x l=true){a:Nat}(ha:a<=l.length){row:List Vl}(hf:fits row (vK x l a)=true):∀k,k<=a->fits (bwN (((stL x l).drop (a-k)).take k) row) (vK x l (a-k))=true
 |0,_=>by simpa[bwN] using hf
 |k+1,hk=>by
  have ih:=fits_bwN hb ha hf k (by omega)
  obtain⟨c,hc⟩:∃c,l[a-(k+1)]?=some c:=⟨_,List.getElem?_eq_getElem (by omega)⟩
  have hs:=bwN_cons (stL x l) a (a-(k+1)) _ row (by omega) (stL_get (x:=x) hc)
  rw[show a-(a-(k+1))=k+1 by omega,show a-(a-(k+1)+1)=k by omega,show a-(k+1)+1=a-k by omega] at hs
  rw[hs]
  have h2:=vK_succ hb hc
  rw[show a-(k+1)+1=a-k by omega] at h2
  rw[h2] at ih
  exact fits_bw (stB_get hb hc) ih
theorem fits_fwN'{x:TD}{l:List Ch}(hb:stB x l=true){a p:Nat}{row:List Vl}(hf:fits row (vK x l a)=true)(hap:a<=p)(hp:p<=l.length):fits (fwN (((stL x l).drop a).take (p-a)) row) (vK x l p)=true:=by
 have:=fits_fwN hb hf (p-a) (by omega)
 rwa [show a+(p-a)=p by omega] at this
theorem fits_bwN'{x:TD}{l:List Ch}(hb:stB x l=true){a p:Nat}{row:List Vl}(hf:fits row (vK x l a)=true)(hap:p<=a)(ha:a<=l.length):fits (bwN (((stL x l).drop p).take (a-p)) row) (vK x l p)=true:=by
 have:=fits_bwN hb ha hf (a-p) (by omega)
 rwa [show a-(a-p)=p by omega] at this
def cnvR(x:TD)(l:List Ch)(a b:Nat)(row:List Vl):List Vl:=if a<=b then fwN (((stL x l).drop a).take (b-a)) row else bwN (((stL x l).drop b).take (a-b)) row
def cnvD(x:TD)(l:List Ch)(a b:Int)(row:List Vl):D:=
 if stE x l=false\/a<0\/b<0\/(l.length:Int)<a\/(l.length:Int)<b\/fits row (vK x l a.toNat)=false then .nil
 else .sl (eVs (cnvR x l a.toNat b.toNat row))
theorem fits_cnv{x:TD}{l:List Ch}(hb:stB x l=true){a b:Nat}(ha:a<=l.length)(hbl:b<=l.length){row:List Vl}(hf:fits row (vK x l a)=true):fits (cnvR x l a b row) (vK x l b)=true:=by
 unfold cnvR
 split
 ·exact fits_fwN' hb hf (by omega) hbl
 ·exact fits_bwN' hb hf (by omega) ha
theorem vK_ne{x:TD}{l:List Ch}(hq:tabE x.t=0)(hb:stB x l=true){i:Nat}(hi:i<=l.length):1<=(vK x l i).length/\(vK x l i).length<=12:=by
 have h:=tab_vd.1 (stB_at hq hb i hi)
 unfold vK
 rw[kd_len]
 exact⟨h.l1,h.l2⟩
theorem C.Conv_c1(s:St)(h:s.x.ok)(hq:evoE s.x.t s.c=0)(row:List Vl)(hf:fits row (kd s.x.t.cs)=true):CallSpec Tryz.prog N.mapping_Convert_c1 [s.av,.ptr 0 0] [.cells [.d (.sl (eVs row))]] (λr os=>r=.tup []/\os=[.cells [.d (.sl (eVs (fwV s.x.t s.c row)))]]):=by
 have hI:=C.mapping_step_forward s h hq row hf
 obtain⟨q,hqq⟩:∃q,q=eVs (fwV s.x.t s.c row):=⟨_,rfl⟩
 rw[<- hqq] at hI ⊢
 clear hqq h hf hq
 obtain⟨⟨⟨nm,cs,ks,fs,xs⟩,dc,dk,df,dx⟩,y,⟨ck,cnm,to,⟨cn,cck,cl⟩,⟨vk,vn,vs⟩⟩⟩:=s
 refine F.mapping_Convert_c1.goX mixed rfl ?_
 repeat' first|refine st ?_|((with_reducible first|apply k_pn|apply k_pc);(·exact hI))|(with_reducible first|apply k_d|apply k_b)<;>intro _
 all_goals exact⟨rfl,rfl⟩
theorem C.Conv_c2(s:St)(h:s.x.ok)(hq:evoE s.x.t s.c=0)(row:List Vl)(hf:fits row (kd (evoT s.x.t s.c).cs)=true):CallSpec Tryz.prog N.mapping_Convert_c2 [s.av,.ptr 0 0] [.cells [.d (.sl (eVs row))]] (λr os=>r=.tup []/\os=[.cells [.d (.sl (eVs (bwV s.x.t s.c row)))]]):=by
 have hI:=C.mapping_step_backward s h hq row hf
 obtain⟨q,hqq⟩:∃q,q=eVs (bwV s.x.t s.c row):=⟨_,rfl⟩
 rw[<- hqq] at hI ⊢
 clear hqq h hf hq
 obtain⟨⟨⟨nm,cs,ks,fs,xs⟩,dc,dk,df,dx⟩,y,⟨ck,cnm,to,⟨cn,cck,cl⟩,⟨vk,vn,vs⟩⟩⟩:=s
 refine F.mapping_Convert_c2.goX mixed rfl ?_
 repeat' first|refine st ?_|((with_reducible first|apply k_pn|apply k_pc);(·exact hI))|(with_reducible first|apply k_d|apply k_b)<;>intro _
 all_goals exact⟨rfl,rfl⟩
theorem C.mapping_Convert(x:TD)(h:x.ok)(l:List Ch)(hl:l.length<=1048576)(hls:∀c∈l,Cok c)(d:D)(hd:SlD d (eChs l))(a b:Int)(row:List Vl)(hr:row.length<=1048576)(hrs:∀v∈row,v.s.length<=1048576)(dr:D)(hdr:SlD dr (eVs row)) :
  Pure Tryz.prog N.mapping_Convert [x.av,.d d,.d (eI a),.d (eI b),.d dr] (.d (cnvD x l a b row)):=by
 have hS:=C.mapping_steps x h l hl hls d hd
 have hT:=C.mapping_Tables x h l hl hls d hd
 have h1:=eChs_len l
 obtain⟨q,hq⟩:∃q,q=cnvD x l a b row:=⟨_,rfl⟩
 rw[<- hq]
 unfold cnvD at hq
 unfold tabD at hT
 obtain⟨es,hes⟩:∃es,es=eChs l:=⟨_,rfl⟩
 rw[<- hes] at h1 hd
 cases hb:stE x l with
 |false=>
  rw[hb] at hS hT hq
  rw[if_neg (by decide)] at hS hT
  rw[if_pos (.inl rfl)] at hq
  subst hq
  clear hb hd h
  obtain⟨⟨nm,cs,ks,fs,xs⟩,dc,dk,df,dx⟩:=x
  refine F.mapping_Convert.go mixed rfl ?_
  repeat' first|refine st ?_|((with_reducible first|apply k_pn|apply k_pc);(·exact hS))|(with_reducible first|apply k_d|apply k_b)<;>intro _
  all_goals rfl
 |true=>
  rw[hb] at hS hT hq
  rw[if_pos rfl] at hS hT
  have hbs:tabE x.t=0/\stB x l=true:=by
   unfold stE at hb
   rw[Bool.and_eq_true] at hb
   exact⟨of_decide_eq_true hb.1,hb.2⟩
  simp only[Bool.true_eq_false,false_or] at hq
  by_cases g1:a<0
  ·rw[if_pos (.inl g1)] at hq
   subst hq
   clear hb hd h
   obtain⟨⟨nm,cs,ks,fs,xs⟩,dc,dk,df,dx⟩:=x
   refine F.mapping_Convert.go mixed rfl ?_
   repeat' first|refine st ?_|((with_reducible first|apply k_pn|apply k_pc);(·exact hS))|(with_reducible first|apply k_d|apply k_b)<;>intro _
   all_goals rfl
  by_cases g2:b<0
  ·rw[if_pos (.inr (.inl g2))] at hq
   subst hq
   clear hb hd h
   obtain⟨⟨nm,cs,ks,fs,xs⟩,dc,dk,df,dx⟩:=x
   refine F.mapping_Convert.go mixed rfl ?_
   repeat' first|refine st ?_|((with_reducible first|apply k_pn|apply k_pc);(·exact hS))|(with_reducible first|apply k_d|apply k_b)<;>intro _
   all_goals rfl
  by_cases g3:(l.length:Int)<a
  ·rw[if_pos (.inr (.inr (.inl g3)))] at hq
   subst hq
   have g3':(es.length:Int)<a:=by omega
   clear hb h
   obtain⟨⟨nm,cs,ks,fs,xs⟩,dc,dk,df,dx⟩:=x
   refine F.mapping_Convert.go mixed rfl ?_
   repeat' first|refine st ?_|((with_reducible first|apply k_pn|apply k_pc);(·exact hS))|(with_reducible first|apply k_d|apply k_b)<;>intro _
   all_goals rfl
  by_cases g4:(l.length:Int)<b
  ·rw[if_pos (.inr (.inr (.inr (.inl g4))))] at hq
   subst hq
   have g4':(es.length:Int)<b:=by omega
   clear hb h
   obtain⟨⟨nm,cs,ks,fs,xs⟩,dc,dk,df,dx⟩:=x
   refine F.mapping_Convert.go mixed rfl ?_
   repeat' first|refine st ?_|((with_reducible first|apply k_pn|apply k_pc);(·exact hS))|(with_reducible first|apply k_d|apply k_b)<;>intro _
   all_goals rfl
  obtain⟨a,rfl⟩:∃n:Nat,a=n:=⟨a.toNat,by omega⟩
  obtain⟨b,rfl⟩:∃n:Nat,b=n:=⟨b.toNat,by omega⟩
  have ga:a<=l.length:=by omega
  have gb:b<=l.length:=by omega
  rw[Int.toNat_natCast,Int.toNat_natCast] at hq
  have hv:=eTs_get (tabL_get x l a ga)
  have hvok:=TD.cp_ok (chn_ok (l.take a) h λc hc=>hls c (List.mem_of_mem_take hc))
  have hK:=C.schema_Kinds (chn x (l.take a)).cp.t.nm (chn x (l.take a)).cp.t.cs hvok.tok.hl (chn x (l.take a)).cp.dc (chn x (l.take a)).cp.dk (chn x (l.take a)).cp.df (chn x (l.take a)).cp.dx hvok.tok.dc
  have hvk:vK x l a=kd (chn x (l.take a)).cp.t.cs:=rfl
  have hF:=C.tuple_Fits row (vK x l a) hr (by rw[hvk,kd_len];have:=hvok.tok.hl;omega) hrs dr hdr _ (kdD_sl (chn x (l.take a)).cp.t.cs)
  have hTl:=eTs_len (tabL x l)
  have hTm:=eTs_mem (tabL x l)
  have hTl2:(tabL x l).length=l.length+1:=by unfold tabL;rw[List.length_cons,List.length_map,stL_len]
  obtain⟨v,hvv⟩:∃v,v=(chn x (l.take a)).cp:=⟨_,rfl⟩
  rw[<- hvv] at hv hK hF
  obtain⟨Ts,hTs⟩:∃z,z=eTs (tabL x l):=⟨_,rfl⟩
  rw[<- hTs] at hT hv hTl hTm
  have hv2:Ts[((a:Nat):Int).toNat]?=_:=hv
  have ht1:(a:Int)<Ts.length:=by omega
  cases g6:fits row (vK x l a) with
  |false=>
   rw[g6] at hq hF
   rw[if_pos (.inr (.inr (.inr (.inr rfl))))] at hq
   subst hq
   clear hb h hbs hvk hvv hvok
   obtain⟨⟨nm,cs,ks,fs,xs⟩,dc,dk,df,dx⟩:=x
   refine F.mapping_Convert.go mixed rfl ?_
   repeat' first|refine st ?_|((with_reducible first|apply k_pn|apply k_pc);(·first|exact hS|exact hT|exact hK|exact hF))|(with_reducible first|apply k_d|apply k_b)<;>intro _
   all_goals rfl
  |true=>
   rw[g6] at hq hF
   rw[if_neg (by rintro(e|e|e|e|e)<;>first|omega|cases e)] at hq
   have hrl:=(fits_bd g6).1
   have hne:=vK_ne hbs.1 hbs.2 ga
   have hdd:=row_sl hdr (by omega)
   subst hdd
   have hmr:=eVs_mem row
   have hCl:=C.cloneVP (eVs row) (by rw[eVs_len];omega) hmr (.sl (eVs row)) (.inr rfl)
   have hSl:=stL_len l x
   obtain⟨S,hSS⟩:∃S,S=stL x l:=⟨_,rfl⟩
   have hcv:cnvR x l a b row=if a<=b then fwN ((S.drop a).take (b-a)) row else bwN ((S.drop b).take (a-b)) row:=by rw[hSS];rfl
   rw[hcv] at hq
   have hff:=λp h1 h2=>fits_fwN' (p:=p) hbs.2 g6 h1 h2
   have hfb:=λp h1=>fits_bwN' (p:=p) hbs.2 g6 h1 ga
   rw[<- hSS] at hS hSl hff hfb
   have hSg:∀(i:Nat) s,S[i]?=some s->s.x.ok/\evoE s.x.t s.c=0/\kd s.x.t.cs=vK x l i/\kd (evoT s.x.t s.c).cs=vK x l (i+1):=λi s hs=>by
    have hi:=(List.getElem?_eq_some_iff.1 hs).1
    have hc:l[i]?=some (l[i]'(by omega)):=List.getElem?_eq_getElem (by omega)
    have h2:=stL_get (x:=x) hc
    rw[<- hSS,hs] at h2
    rw[Option.some.inj h2]
    exact⟨chn_ok _ h λc hc=>hls c (List.mem_of_mem_take hc),stB_get hbs.2 hc,rfl,(vK_succ hbs.2 hc).symm⟩
   have hsd:SlD (slD (eSt S).isEmpty (eSt S)) (eSt S):=sld_slD λe=>List.isEmpty_iff.1 e
   obtain⟨sd,hsd0⟩:∃z,z=slD (eSt S).isEmpty (eSt S):=⟨_,rfl⟩
   rw[<- hsd0] at hS hsd
   obtain⟨z,hz⟩:∃z:Nat->D,z=λp=>if a<=p then .sl (eVs (fwN ((S.drop a).take (p-a)) row)) else .sl (eVs (bwN ((S.drop p).take (a-p)) row)):=⟨_,rfl⟩
   have hza:z a=.sl (eVs row):=by rw[hz];simp[fwN]
   have hzf:∀p,a<=p->z p=.sl (eVs (fwN ((S.drop a).take (p-a)) row)):=λp hp=>by rw[hz];simp[hp]
   have hzb:∀p,p<=a->z p=.sl (eVs (bwN ((S.drop p).take (a-p)) row)):=λp hp=>by
    rw[hz]
    by_cases e:p=a
    ·subst e;simp[fwN,bwN]
    ·simp[show ¬a<=p by omega]
   have hW:=C.mapping_walk N.mapping_Convert_c1 N.mapping_Convert_c2 S (by omega) sd hsd a b (by omega) (by omega) z (λi s h1 h2 h3=>by
     rw[hzf i h1,hzf (i+1) (by omega),fwN_snoc S a i s row h1 h3]
     obtain⟨k1,k2,k3,k4⟩:=hSg i s h3
     exact C.Conv_c1 s k1 k2 _ (by rw[k3];exact hff i h1 (by omega))) (λi s h1 h2 h3=>by
     rw[hzb i (by omega),hzb (i+1) (by omega),bwN_cons S a i s row h2 h3]
     obtain⟨k1,k2,k3,k4⟩:=hSg i s h3
     exact C.Conv_c2 s k1 k2 _ (by rw[k4];exact hfb (i+1) (by omega)))
   have hzr:z b=q:=by
    rw[hq]
    by_cases hab:a<=b
    ·rw[if_pos hab,hzf b hab]
    ·rw[if_neg hab,hzb b (by omega)]
   rw[hza,hzr] at hW
   have hL:=fun {os:List AO} (ho:os[1]?=some (.cells [.d (.sl (eVs row))]))=>liftW (id:=1) hW ho
   clear hb h hbs hW hzf hzb hz hza hzr hq hSS hsd0 hcv hff hfb hvk hvv hvok hrl hne hSg
   obtain⟨⟨nm,cs,ks,fs,xs⟩,dc,dk,df,dx⟩:=x
   refine F.mapping_Convert.go mixed rfl ?_
   repeat' first|refine st ?_|((with_reducible first|apply k_pn|apply k_pc);(·first|exact hS|exact hT|exact hK|exact hF|exact hCl))|((with_reducible first|apply k_nc|apply k_cs);(·exact hL rfl);(try rintro _ _ ⟨rfl,rfl⟩))|((with_reducible apply k_pr);(·exact hL rfl))|((with_reducible apply k_cal);refine st ?_;(with_reducible apply k_chk);(·exact rfl);refine st ?_;(with_reducible apply k_cs);(·exact hL rfl);(try rintro _ _ ⟨rfl,rfl⟩))|(with_reducible first|apply k_d|apply k_b)<;>intro _
   all_goals rfl
end Go.Proofs
end
section
namespace Go.Proofs
open Go.Bi
theorem nf_cs{t u:Tb}(h:nf t=nf u):t.cs=u.cs:=by unfold nf at h;injection h
end Go.Proofs
end
section
namespace Go.Proofs
open Go.Bi
def saT:Tb:=⟨[116],[⟨[97],1,false⟩,⟨[98],1,true⟩],[0],[],[]⟩
def saA:Ch:=⟨1,[],[],⟨[99],1,true⟩,⟨1,7,[]⟩⟩
def saX:Ch:=⟨4,[98],[],⟨[],0,false⟩,⟨0,0,[]⟩⟩
def saD:TD:=⟨saT,.sl (eCs saT.cs),.sl (eIs saT.ks),.nil,.nil⟩
theorem saD_ok:saD.ok:=
 ⟨⟨by decide,by decide,by decide,by decide,by decide,λf hf=>by simp[saD,saT] at hf,by decide,λe he=>by simp[saD,saT] at he,sld_sl,sld_sl,sld_nil,sld_nil⟩,λe he=>by simp[saD,saT] at he⟩
theorem saA_ok:Cok saA:=⟨by decide,by decide,by decide,by decide⟩
theorem saX_ok:Cok saX:=⟨by decide,by decide,by decide,by decide⟩
theorem sa_evo:evoE saT saA=0/\evoE saT saX=0:=⟨by kernel_rfl,by kernel_rfl⟩
abbrev w1:Vl:=⟨1,1,[]⟩
abbrev w7:Vl:=⟨1,7,[]⟩
abbrev t7:Vl:=⟨2,0,[55]⟩
abbrev t07:Vl:=⟨2,0,[48,55]⟩
theorem tx_w7:txV w7=t7:=by
 have h:Lib.itoa 7=[55]:=by
  have:=Lib.itoa_nonneg 7
  rw[Lib.decDigits_one (by decide)] at this
  exact this
 have hv:vValid w7=true:=by decide
 have hl:vLit w7=[55]:=by
  unfold vLit
  rw[hv,if_neg (by decide),if_pos rfl,h]
 unfold txV
 rw[if_neg (show ¬(1:Int)=0 by decide),hl]
 decide
theorem sa1:fwD saT saA [w1,w1]=.sl (eVs [w1,w1,w7]):=by
 unfold fwD
 rw[if_pos ⟨sa_evo.1,by decide⟩];rfl
theorem sa2:bwD saT saA [w1,w1,w1]=.sl (eVs [w1,w1]):=by
 unfold bwD
 rw[if_pos ⟨sa_evo.1,by decide⟩];rfl
theorem sa3:fwD saT saX [w1,w7]=.sl (eVs [w1,t7]):=by
 unfold fwD
 rw[if_pos ⟨sa_evo.2,by decide⟩]
 have:fwV saT saX [w1,w7]=[w1,txV w7]:=rfl
 rw[this,tx_w7]
theorem sa4:bwD saT saX [w1,t07]=.sl (eVs [w1,vNull]):=by
 unfold bwD
 rw[if_pos ⟨sa_evo.2,by decide⟩];kernel_rfl
theorem sa5:bwD saT saX [w1,t7]=.sl (eVs [w1,w7]):=by
 unfold bwD
 rw[if_pos ⟨sa_evo.2,by decide⟩];kernel_rfl
theorem C.law15_awake:Pure Tryz.prog N.bt_law15_awake [] (.d (.bool true)):=by
 have hI1:Bi.Pure Tryz.prog N.bt_ref07_Int [.d (eI 1)] (eV ⟨1,1,[]⟩):=C.r7_Int 1
 have hI7:Bi.Pure Tryz.prog N.bt_ref07_Int [.d (eI 7)] (eV ⟨1,7,[]⟩):=C.r7_Int 7
 have hT7:Bi.Pure Tryz.prog N.bt_ref07_Text [.d (.str [55])] (eV ⟨2,0,[55]⟩):=C.r7_Text [55] (by decide)
 have hT07:Bi.Pure Tryz.prog N.bt_ref07_Text [.d (.str [48,55])] (eV ⟨2,0,[48,55]⟩):=C.r7_Text [48,55] (by decide)
 have hN:=C.r7_Null
 have h1:=C.mapping_Forward saD saD_ok saA saA_ok [w1,w1] (by decide) (by decide) (.sl (eVs [w1,w1])) (.inr rfl)
 have h2:=C.mapping_Backward saD saD_ok saA saA_ok [w1,w1,w1] (by decide) (by decide) (.sl (eVs [w1,w1,w1])) (.inr rfl)
 have h3:=C.mapping_Forward saD saD_ok saX saX_ok [w1,w7] (by decide) (by decide) (.sl (eVs [w1,w7])) (.inr rfl)
 have h4:=C.mapping_Backward saD saD_ok saX saX_ok [w1,t07] (by decide) (by decide) (.sl (eVs [w1,t07])) (.inr rfl)
 have h5:=C.mapping_Backward saD saD_ok saX saX_ok [w1,t7] (by decide) (by decide) (.sl (eVs [w1,t7])) (.inr rfl)
 rw[show saD.t=saT from rfl,sa1] at h1
 rw[show saD.t=saT from rfl,sa2] at h2
 rw[show saD.t=saT from rfl,sa3] at h3
 rw[show saD.t=saT from rfl,sa4] at h4
 rw[show saD.t=saT from rfl,sa5] at h5
 have e1:=C.r8_Equal_refl [w1,w1,w7] (by decide) _ _ (.inr rfl) (.inr rfl)
 have e2:=C.r8_Equal_refl [w1,t7] (by decide) _ _ (.inr rfl) (.inr rfl)
 have e3:=C.r8_Equal_refl [w1,w7] (by decide) _ _ (.inr rfl) (.inr rfl)
 have e4:=C.r8_Equal_refl [w1,vNull] (by decide) _ _ (.inr rfl) (.inr rfl)
 refine F.bt_law15_awake.go mixed rfl ?_
 repeat' first|refine st ?_|((with_reducible first|apply k_pn|apply k_pc);(·first|exact hI1|exact hI7|exact hT7|exact hT07|exact hN|exact h1|exact h2|exact h3|exact h4|exact h5|exact e1|exact e2|exact e3|exact e4))|(with_reducible first|apply k_d|apply k_b)<;>intro _
 all_goals rfl
end Go.Proofs
end
section
namespace Go.Proofs
open Go.Bi
theorem cnvR_fw{x:TD}{l:List Ch}{a b:Nat}(h:a<=b)(row:List Vl):cnvR x l a b row=fwN (((stL x l).drop a).take (b-a)) row:=by unfold cnvR;rw[if_pos h]
theorem cnvR_bw{x:TD}{l:List Ch}{a b:Nat}(h:b<=a)(row:List Vl):cnvR x l a b row=bwN (((stL x l).drop b).take (a-b)) row:=by
 unfold cnvR
 by_cases e:a=b
 ·subst e;rw[if_pos (Nat.le_refl _),fwN_self,bwN_self]
 ·rw[if_neg (by omega)]
theorem seg{α:Type}(S:List α){a m b:Nat}(h1:a<=m)(h2:m<=b):(S.drop a).take (b-a)=(S.drop a).take (m-a)++(S.drop m).take (b-m):=by
 rw[show b-a=(m-a)+(b-m) by omega,List.take_add,List.drop_drop,show a+(m-a)=m by omega]
theorem cnv_mid{x:TD}{l:List Ch}{a m b:Nat}(row:List Vl)(h:(a<=m/\m<=b)\/(b<=m/\m<=a)):cnvR x l m b (cnvR x l a m row)=cnvR x l a b row:=by
 rcases h with ⟨h1,h2⟩|⟨h1,h2⟩
 ·rw[cnvR_fw h1,cnvR_fw h2,cnvR_fw (by omega),seg _ h1 h2]
  unfold fwN
  rw[List.foldl_append]
 ·rw[cnvR_bw h1,cnvR_bw h2,cnvR_bw (by omega),seg _ h1 h2]
  unfold bwN
  rw[List.foldr_append]
theorem back_k{x:TD}{l:List Ch}(hb:stB x l=true){a:Nat}{row:List Vl}(hf:fits row (vK x l a)=true):∀k,a+k<=l.length->(∀(i:Nat) c,a<=i->i<a+k->l[i]?=some c->losB c=true)->
  bwN (((stL x l).drop a).take k) (fwN (((stL x l).drop a).take k) row)=row
 |0,_,_=>rfl
 |k+1,hk,hl=>by
  have ih:=back_k hb hf k (by omega) λi c h1 h2 h3=>hl i c h1 (by omega) h3
  have hff:=fits_fwN hb hf k (by omega)
  obtain⟨c,hc⟩:∃c,l[a+k]?=some c:=⟨_,List.getElem?_eq_getElem (by omega)⟩
  have hs:=stL_get (x:=x) hc
  have e:((stL x l).drop a)[k]?=some ⟨chn x (l.take (a+k)),(chn x (l.take (a+k))).to c,c⟩:=by rw[List.getElem?_drop];exact hs
  have key:=bw_fw (stB_get hb hc) (hl _ c (by omega) (by omega) hc) hff
  rw[List.take_add_one,e]
  unfold fwN at ih key ⊢
  unfold bwN at ih ⊢
  rw[List.foldl_append,List.foldr_append]
  simp only[Option.toList,List.foldl_cons,List.foldl_nil,List.foldr_cons,List.foldr_nil]
  rw[key]
  exact ih
theorem cnv_back{x:TD}{l:List Ch}(hb:stB x l=true){a b:Nat}(hab:a<=b)(hbl:b<=l.length){row:List Vl}(hf:fits row (vK x l a)=true)(hl:∀(i:Nat) c,a<=i->i<b->l[i]?=some c->losB c=true):cnvR x l b a (cnvR x l a b row)=row:=by
 rw[cnvR_fw hab,cnvR_bw hab]
 exact back_k hb hf (b-a) (by omega) λi c h1 h2 h3=>hl i c h1 (by omega) h3
theorem erase_at{α:Type}(row:List α)(i j:Nat)(h:i≠j):(row.eraseIdx i)[(belowI (j:Int) i).toNat]?=row[j]?:=by
 unfold belowI
 rw[List.getElem?_eraseIdx]
 split
 ·rw[if_neg (by omega)]
  congr 1
  omega
 ·rw[if_pos (by omega)];rfl
theorem fw_keep{t:Tb}{c:Ch}(h:evoE t c=0)(h4:c.k≠4){row:List Vl}(hf:fits row (kd t.cs)=true){j:Int}{v:Vl}(hj:0<=j)(hv:row[j.toNat]?=some v):idxE t c j=-1\/(0<=idxE t c j/\(fwV t c row)[(idxE t c j).toNat]?=some v):=by
 obtain⟨q1,q2,q3,q4,q5⟩:=evo_inv h
 have hl:=(fits_bd hf).1
 rw[kd_len] at hl
 have hjl:=(List.getElem?_eq_some_iff.1 hv).1
 unfold idxE
 rw[if_neg (by omega)]
 unfold fwV
 by_cases k1:c.k=1
 ·rw[if_pos (by omega),if_pos k1]
  right
  refine⟨hj,?_⟩
  rw[List.getElem?_append_left hjl];exact hv
 ·rw[if_neg k1]
  by_cases k2:c.k=2
  ·rw[if_neg (by omega),if_pos k2]
   obtain⟨i,co,hi,hco,_⟩:=chg_inv (q5 k1)
   rw[hi]
   by_cases hij:(i:Int)=j
   ·rw[if_pos hij];exact .inl rfl
   ·rw[if_neg hij]
    right
    obtain⟨n,rfl⟩:∃n:Nat,j=n:=⟨j.toNat,by omega⟩
    have e:=erase_at row i n (by omega)
    rw[Int.toNat_natCast] at hv
    refine⟨?_,?_⟩
    ·unfold belowI;split<;>omega
    ·rw[Int.toNat_natCast,e];exact hv
  ·rw[if_pos k2,if_neg k2,if_neg h4]
   exact .inr ⟨hj,hv⟩
theorem bw_keep{t:Tb}{c:Ch}(h:evoE t c=0)(h4:c.k≠4){row:List Vl}(hf:fits row (kd (evoT t c).cs)=true){j:Int}{v:Vl}(hj:0<=j)(hv:row[j.toNat]?=some v):bkT t c j=-1\/(0<=bkT t c j/\(bwV t c row)[(bkT t c j).toNat]?=some v):=by
 obtain⟨q1,q2,q3,q4,q5⟩:=evo_inv h
 have hl:=(fits_bd hf).1
 rw[kd_len] at hl
 have hjl:=(List.getElem?_eq_some_iff.1 hv).1
 unfold bkT bwV
 unfold evoT at hl
 by_cases k1:c.k=1
 ·rw[if_pos k1] at hl ⊢
  dsimp only at hl
  rw[List.length_append,List.length_singleton] at hl
  by_cases e:j=(t.cs.length:Int)
  ·rw[if_pos ⟨k1,e⟩];exact .inl rfl
  ·rw[if_neg (λh=>e h.2),if_neg (by omega)]
   right
   refine⟨hj,?_⟩
   rw[List.getElem?_take_of_lt (by omega)];exact hv
 ·rw[if_neg (λh=>k1 h.1),if_neg k1]
  by_cases k2:c.k=2
  ·rw[if_pos k2]
   obtain⟨i,co,hi,hco,_⟩:=chg_inv (q5 k1)
   have hil:=(List.getElem?_eq_some_iff.1 hco).1
   rw[if_neg k1,if_pos k2,hi,Int.toNat_natCast] at hl
   dsimp only at hl
   rw[List.length_eraseIdx,if_pos hil] at hl
   rw[hi]
   right
   by_cases hij:(i:Int)<=j
   ·rw[if_pos ⟨k2,hij⟩]
    refine⟨by omega,?_⟩
    rw[Int.toNat_natCast,List.getElem?_append_right (by rw[List.length_take];omega),List.length_take,Nat.min_eq_left (by omega),show(j+1).toNat-i=(j.toNat-i)+1 by omega,List.getElem?_cons_succ,List.getElem?_drop,show i+(j.toNat-i)=j.toNat by omega]
    exact hv
   ·rw[if_neg (λh=>hij h.2)]
    refine⟨hj,?_⟩
    rw[Int.toNat_natCast,List.getElem?_append_left (by rw[List.length_take];omega),List.getElem?_take_of_lt (by omega)]
    exact hv
  ·rw[if_neg (λh=>k2 h.1),if_neg k2,if_neg h4]
   exact .inr ⟨hj,hv⟩
theorem idxE_m1(t:Tb)(c:Ch):idxE t c (-1)=-1:=by unfold idxE;rw[if_pos (.inr (.inl (by decide)))]
theorem keep_fw{x:TD}{l:List Ch}(hb:stB x l=true){a:Nat}{row:List Vl}(hf:fits row (vK x l a)=true){j:Int}{v:Vl}(hj:0<=j)(hv:row[j.toNat]?=some v):∀k,a+k<=l.length->(∀(i:Nat) c,a<=i->i<a+k->l[i]?=some c->c.k≠4)->
  fwI (((stL x l).drop a).take k) j=-1\/(0<=fwI (((stL x l).drop a).take k) j/\(fwN (((stL x l).drop a).take k) row)[(fwI (((stL x l).drop a).take k) j).toNat]?=some v)
 |0,_,_=>.inr ⟨hj,by simpa[fwN,fwI] using hv⟩
 |k+1,hk,hl=>by
  have ih:=keep_fw hb hf hj hv k (by omega) λi c h1 h2 h3=>hl i c h1 (by omega) h3
  obtain⟨c,hc⟩:∃c,l[a+k]?=some c:=⟨_,List.getElem?_eq_getElem (by omega)⟩
  have hff:=fits_fwN hb hf k (by omega)
  have h1:=fwI_snoc (stL x l) a (a+k) _ j (by omega) (stL_get (x:=x) hc)
  have h2:=fwN_snoc (stL x l) a (a+k) _ row (by omega) (stL_get (x:=x) hc)
  rw[show a+k+1-a=k+1 by omega,show a+k-a=k by omega] at h1 h2
  rw[h1,h2]
  dsimp only
  rcases ih with e|⟨e1,e2⟩
  ·rw[e];exact .inl (idxE_m1 _ _)
  ·exact fw_keep (stB_get hb hc) (hl _ c (by omega) (by omega) hc) hff e1 e2
theorem keep_bw{x:TD}{l:List Ch}(hb:stB x l=true){a:Nat}(ha:a<=l.length){row:List Vl}(hf:fits row (vK x l a)=true){j:Int}{v:Vl}(hj:0<=j)(hv:row[j.toNat]?=some v):∀k,k<=a->(∀(i:Nat) c,a-k<=i->i<a->l[i]?=some c->c.k≠4)->
  bwI (((stL x l).drop (a-k)).take k) j=-1\/(0<=bwI (((stL x l).drop (a-k)).take k) j/\(bwN (((stL x l).drop (a-k)).take k) row)[(bwI (((stL x l).drop (a-k)).take k) j).toNat]?=some v)
 |0,_,_=>.inr ⟨hj,by simpa[bwN,bwI] using hv⟩
 |k+1,hk,hl=>by
  have ih:=keep_bw hb ha hf hj hv k (by omega) λi c h1 h2 h3=>hl i c (by omega) h2 h3
  obtain⟨c,hc⟩:∃c,l[a-(k+1)]?=some c:=⟨_,List.getElem?_eq_getElem (by omega)⟩
  have hff:=fits_bwN hb ha hf k (by omega)
  have h1:=bwI_cons (stL x l) a (a-(k+1)) _ j (by omega) (stL_get (x:=x) hc)
  have h2:=bwN_cons (stL x l) a (a-(k+1)) _ row (by omega) (stL_get (x:=x) hc)
  rw[show a-(a-(k+1))=k+1 by omega,show a-(a-(k+1)+1)=k by omega,show a-(k+1)+1=a-k by omega] at h1 h2
  rw[h1,h2]
  unfold bkI
  dsimp only
  have h3:=vK_succ hb hc
  rw[show a-(k+1)+1=a-k by omega] at h3
  rw[h3] at hff
  rcases ih with e|⟨e1,e2⟩
  ·rw[e];exact .inl (bkT_neg (stB_get hb hc))
  ·exact bw_keep (stB_get hb hc) (hl _ c (by omega) (by omega) hc) hff e1 e2
structure Va(x:TD)(l:List Ch)(a b:Nat)(row:List Vl):Prop where
 t:tabE x.t=0
 s:stB x l=true
 la:a<=l.length
 lb:b<=l.length
 f:fits row (vK x l a)=true
theorem Va.e{x:TD}{l:List Ch}{a b:Nat}{row:List Vl}(h:Va x l a b row):stE x l=true:=by unfold stE;rw[h.t,h.s];rfl
theorem Va.cnv{x:TD}{l:List Ch}{a b:Nat}{row:List Vl}(h:Va x l a b row):cnvD x l a b row=.sl (eVs (cnvR x l a b row)):=by
 unfold cnvD
 have:=h.la
 have:=h.lb
 rw[if_neg,Int.toNat_natCast,Int.toNat_natCast]
 rw[h.e,Int.toNat_natCast,h.f]
 rintro(e|e|e|e|e|e)<;>first|omega|cases e
theorem keeps{x:TD}{l:List Ch}{a b:Nat}{row:List Vl}(h:Va x l a b row){j:Int}{v:Vl}(hj:0<=j)(hv:row[j.toNat]?=some v)(hl:∀(i:Nat) c,min a b<=i->i<max a b->l[i]?=some c->c.k≠4) :
  colM x l a b j=-1\/(0<=colM x l a b j/\(cnvR x l a b row)[(colM x l a b j).toNat]?=some v):=by
 have hjl:=(List.getElem?_eq_some_iff.1 hv).1
 have hrl:=(fits_bd h.f).1
 have ha:=h.la
 have hb:=h.lb
 unfold vK at hrl
 rw[kd_len] at hrl
 have e:colM x l a b j=if a<=b then fwI (((stL x l).drop a).take (b-a)) j else bwI (((stL x l).drop b).take (a-b)) j:=by
  unfold colM
  rw[if_neg]
  ·simp only[Int.toNat_natCast]
   by_cases hab:a<=b
   ·rw[if_pos hab,if_pos (by omega)]
   ·rw[if_neg hab,if_neg (by omega)]
  ·rw[h.e,Int.toNat_natCast]
   rintro(e|e|e|e|e|e|e)<;>first|omega|cases e
 rw[e]
 by_cases hab:a<=b
 ·rw[if_pos hab,cnvR_fw hab]
  exact keep_fw h.s h.f hj hv (b-a) (by omega) λi c h1 h2 h3=>hl i c (by omega) (by omega) h3
 ·rw[if_neg hab,cnvR_bw (by omega)]
  have:=keep_bw h.s h.la h.f hj hv (a-b) (by omega) λi c h1 h2 h3=>hl i c (by omega) (by omega) h3
  rwa [show a-(a-b)=b by omega] at this
end Go.Proofs
end
section
namespace Go.Proofs
open Go.Bi
theorem stE_two{x:TD}{l:List Ch}(h:stE x l=true):tabE x.t=0/\stB x l=true:=by
 unfold stE at h
 rw[Bool.and_eq_true] at h
 exact⟨of_decide_eq_true h.1,h.2⟩
theorem va_of{x:TD}{l:List Ch}{a b:Int}{row:List Vl}(h:¬(stE x l=false\/a<0\/b<0\/(l.length:Int)<a\/(l.length:Int)<b\/fits row (vK x l a.toNat)=false)):∃m n:Nat,a=m/\b=n/\Va x l m n row:=by
 simp only[not_or,Bool.not_eq_false] at h
 obtain⟨h1,h2,h3,h4,h5,h6⟩:=h
 obtain⟨k1,k2⟩:=stE_two h1
 exact⟨a.toNat,b.toNat,by omega,by omega,k1,k2,by omega,by omega,h6⟩
theorem C.eq_self{q:D}{r:List Vl}(h:SlD q (eVs r))(hl:r.length<=1048576):Pure Tryz.prog N.bt_ref08_Equal [.d q,.d q] (.d (.bool true)):=C.r8_Equal_refl r hl q q h h
abbrev caD(x:TD)(d:D)(a b:Int)(dr:D):AV:=.agg [.d (.str x.t.nm),.d x.dc,.d x.dk,.d x.df,.d x.dx,.d d,.d (eI a),.d (eI b),.d dr]
end Go.Proofs
end
section
namespace Go.Proofs
open Go.Bi
def vaB(x:TD)(l:List Ch)(a b:Int)(row:List Vl):Bool:=
 if stE x l=false\/a<0\/b<0\/(l.length:Int)<a\/(l.length:Int)<b\/fits row (vK x l a.toNat)=false then false else true
theorem C.law15_valid(x:TD)(h:x.ok)(l:List Ch)(hl:l.length<=1048576)(hls:∀c∈l,Cok c)(d:D)(hd:SlD d (eChs l))(a b:Int)(row:List Vl)(hr:row.length<=1048576)(hrs:∀v∈row,v.s.length<=1048576)(dr:D)(hdr:SlD dr (eVs row)) :
  Pure Tryz.prog N.bt_law15_valid [caD x d a b dr] (.d (.bool (vaB x l a b row))):=by
 have hT:=C.r15_Tables x h l hl hls d hd
 obtain⟨q,hq⟩:∃q,q=vaB x l a b row:=⟨_,rfl⟩
 rw[<- hq]
 unfold vaB at hq
 unfold refD at hT
 rw[preB_st] at hT
 cases hb:stE x l with
 |false=>
  rw[hb] at hT hq
  rw[if_neg (by decide)] at hT
  rw[if_pos (.inl rfl)] at hq
  subst hq
  have g0:a<0\/0<=a:=by omega
  clear hb hd h
  obtain⟨⟨nm,cs,ks,fs,xs⟩,dc,dk,df,dx⟩:=x
  refine F.bt_law15_valid.go mixed rfl ?_
  rcases g0 with g0|g0
  ·repeat' first|refine st ?_|((with_reducible first|apply k_pn|apply k_pc);(·exact hT))|(with_reducible first|apply k_d|apply k_b)<;>intro _
   all_goals rfl
  ·repeat' first|refine st ?_|((with_reducible first|apply k_pn|apply k_pc);(·exact hT))|(with_reducible first|apply k_d|apply k_b)<;>intro _
   all_goals first|rfl|(exfalso;simp only[List.length_nil] at *;omega)
 |true=>
  rw[hb] at hT hq
  rw[if_pos rfl] at hT
  simp only[Bool.true_eq_false,false_or] at hq
  have hTl:=eTs_len (refL x l (l.length+1))
  have hTm:=eTs_mem (refL x l (l.length+1))
  have hTl2:(refL x l (l.length+1)).length=l.length+1:=by unfold refL;rw[List.length_map,List.length_range]
  rw[hTl2] at hTl
  have hTg:∀i,i<=l.length->∃y:TD,(eTs (refL x l (l.length+1)))[i]?=some [.str y.t.nm,y.dc,y.dk,y.df,y.dx]/\y.ok/\nf y.t=nf (chn x (l.take i)).t:=λi hi=>
   ⟨_,eTs_get (refL_get x l _ i (by omega)),runsR_ok h λc hc=>hls c (List.mem_of_mem_take hc),runsR_chn x _ (stE_take i hb)⟩
  obtain⟨Ts,hTs⟩:∃z,z=eTs (refL x l (l.length+1)):=⟨_,rfl⟩
  rw[<- hTs] at hT hTl hTg hTm
  by_cases g1:a<0
  ·rw[if_pos (.inl g1)] at hq
   subst hq
   clear hb hd h hTg
   obtain⟨⟨nm,cs,ks,fs,xs⟩,dc,dk,df,dx⟩:=x
   refine F.bt_law15_valid.go mixed rfl ?_
   repeat' first|refine st ?_|((with_reducible first|apply k_pn|apply k_pc);(·exact hT))|(with_reducible first|apply k_d|apply k_b)<;>intro _
   all_goals rfl
  by_cases g3:(l.length:Int)<a
  ·rw[if_pos (.inr (.inr (.inl g3)))] at hq
   subst hq
   have g3':(Ts.length:Int)<=a:=by omega
   clear hb h hTg
   obtain⟨⟨nm,cs,ks,fs,xs⟩,dc,dk,df,dx⟩:=x
   refine F.bt_law15_valid.go mixed rfl ?_
   repeat' first|refine st ?_|((with_reducible first|apply k_pn|apply k_pc);(·exact hT))|(with_reducible first|apply k_d|apply k_b)<;>intro _
   all_goals rfl
  have g3':a<(Ts.length:Int):=by omega
  by_cases g2:b<0
  ·rw[if_pos (.inr (.inl g2))] at hq
   subst hq
   clear hb hd h hTg
   obtain⟨⟨nm,cs,ks,fs,xs⟩,dc,dk,df,dx⟩:=x
   refine F.bt_law15_valid.go mixed rfl ?_
   repeat' first|refine st ?_|((with_reducible first|apply k_pn|apply k_pc);(·exact hT))|(with_reducible first|apply k_d|apply k_b)<;>intro _
   all_goals rfl
  by_cases g4:(l.length:Int)<b
  ·rw[if_pos (.inr (.inr (.inr (.inl g4))))] at hq
   subst hq
   have g4':(Ts.length:Int)<=b:=by omega
   clear hb h hTg
   obtain⟨⟨nm,cs,ks,fs,xs⟩,dc,dk,df,dx⟩:=x
   refine F.bt_law15_valid.go mixed rfl ?_
   repeat' first|refine st ?_|((with_reducible first|apply k_pn|apply k_pc);(·exact hT))|(with_reducible first|apply k_d|apply k_b)<;>intro _
   all_goals rfl
  have g4':b<(Ts.length:Int):=by omega
  obtain⟨a,rfl⟩:∃n:Nat,a=n:=⟨a.toNat,by omega⟩
  rw[Int.toNat_natCast] at hq
  obtain⟨v,hv,hvok,hvn⟩:=hTg a (by omega)
  have hvk:vK x l a=kd v.t.cs:=by unfold vK;rw[nf_cs hvn]
  have hK:=C.r13_Kinds v.t.nm v.t.cs hvok.tok.hl v.dc v.dk v.df v.dx hvok.tok.dc
  have hF:=C.r8_Fits row (vK x l a) hr (by rw[hvk,kd_len];exact hvok.tok.hl) hrs dr hdr (.sl (eIs (kd v.t.cs))) (.inr (by rw[hvk]))
  have hv2:Ts[((a:Nat):Int).toNat]?=_:=hv
  have hq:q=fits row (vK x l a):=by
   rw[hq]
   cases fits row (vK x l a) with
   |false=>rw[if_pos (.inr (.inr (.inr (.inr rfl))))]
   |true=>rw[if_neg (by rintro(e|e|e|e|e)<;>first|omega|cases e)]
  rw[<- hq] at hF
  clear hb h hvk hvn hvok hTg hq
  obtain⟨⟨nm,cs,ks,fs,xs⟩,dc,dk,df,dx⟩:=x
  refine F.bt_law15_valid.go mixed rfl ?_
  repeat' first|refine st ?_|((with_reducible first|apply k_pn|apply k_pc);(·first|exact hT|exact hK|exact hF))|(with_reducible first|apply k_d|apply k_b)<;>intro _
  all_goals first|rfl|(cases q<;>rfl)
theorem vaB_no{x:TD}{l:List Ch}{a b:Int}{row:List Vl}(h:vaB x l a b row=true):∃m n:Nat,a=m/\b=n/\Va x l m n row:=by
 unfold vaB at h
 split at h
 ·cases h
 ·exact va_of (by assumption)
theorem L.MappingBack(x:TD)(h:x.ok)(l:List Ch)(hl:l.length<=1048576)(hls:∀c∈l,Cok c)(d:D)(hd:SlD d (eChs l))(a b:Int)(row:List Vl)(hr:row.length<=1048576)(hrs:∀v∈row,v.s.length<=1048576)(dr:D)(hdr:SlD dr (eVs row)) :
  Pure Tryz.prog N.bt_law15_MappingBack [caD x d a b dr] (.d (.bool true)):=by
 have hV:=C.law15_valid x h l hl hls d hd a b row hr hrs dr hdr
 have hA:=C.law15_awake
 cases hb:vaB x l a b row with
 |false=>
  rw[hb] at hV
  clear hb h hd hdr
  obtain⟨⟨nm,cs,ks,fs,xs⟩,dc,dk,df,dx⟩:=x
  refine F.bt_law15_MappingBack.go mixed rfl ?_
  repeat' first|refine st ?_|((with_reducible first|apply k_pn|apply k_pc);(·first|exact hV|exact hA))|(with_reducible first|apply k_d|apply k_b)<;>intro _
  all_goals rfl
 |true=>
  rw[hb] at hV
  obtain⟨a,b,rfl,rfl,va⟩:=vaB_no hb
  have hT:=C.r15_Tables x h l hl hls d hd
  unfold refD at hT
  rw[preB_st,va.e,if_pos rfl] at hT
  have hTl:=eTs_len (refL x l (l.length+1))
  have hTm:=eTs_mem (refL x l (l.length+1))
  have hTl2:(refL x l (l.length+1)).length=l.length+1:=by unfold refL;rw[List.length_map,List.length_range]
  rw[hTl2] at hTl
  have hvb:=va.lb
  have hva:=va.la
  obtain⟨v,hv,hvok,hvn⟩:∃y:TD,(eTs (refL x l (l.length+1)))[b]?=some [.str y.t.nm,y.dc,y.dk,y.df,y.dx]/\y.ok/\nf y.t=nf (chn x (l.take b)).t:=
   ⟨_,eTs_get (refL_get x l _ b (by omega)),runsR_ok h λc hc=>hls c (List.mem_of_mem_take hc),runsR_chn x _ (stE_take b va.e)⟩
  obtain⟨Ts,hTs⟩:∃z,z=eTs (refL x l (l.length+1)):=⟨_,rfl⟩
  rw[<- hTs] at hT hTl hTm hv
  have hvk:vK x l b=kd v.t.cs:=by unfold vK;rw[nf_cs hvn]
  have hcf:=fits_cnv va.s va.la va.lb va.f
  obtain⟨hcl,hcs⟩:=fits_bd hcf
  have hne:=vK_ne va.t va.s va.lb
  have hne1:=vK_ne va.t va.s va.la
  have hrl:=(fits_bd va.f).1
  have hdd:=row_sl hdr (by omega)
  subst hdd
  have hC:=C.mapping_Convert x h l hl hls d hd a b row hr hrs _ hdr
  rw[va.cnv] at hC
  have hK:=C.r13_Kinds v.t.nm v.t.cs hvok.tok.hl v.dc v.dk v.df v.dx hvok.tok.dc
  have hF:=C.r8_Fits (cnvR x l a b row) (vK x l b) (by omega) (by omega) (λv hv=>by have:=hcs v hv;omega) (.sl (eVs (cnvR x l a b row))) (.inr rfl) (.sl (eIs (kd v.t.cs))) (.inr (by rw[hvk]))
  rw[hcf] at hF
  have hv2:Ts[((b:Nat):Int).toNat]?=_:=hv
  have hblt:(b:Int)<Ts.length:=by omega
  have hC2:=C.mapping_Convert x h l hl hls d hd b a (cnvR x l a b row) (by omega) (λv hv=>by have:=hcs v hv;omega) (.sl (eVs (cnvR x l a b row))) (.inr rfl)
  have va2:Va x l b a (cnvR x l a b row):=⟨va.t,va.s,va.lb,va.la,hcf⟩
  rw[va2.cnv] at hC2
  have hback:a<=b->(∀(i:Nat) c,a<=i->i<b->l[i]?=some c->losB c=true)->cnvR x l b a (cnvR x l a b row)=row:=λhab hlo=>cnv_back va.s hab va.lb va.f hlo
  have hE:=C.eq_self (q:=.sl (eVs row)) (r:=row) (.inr rfl) hr
  have hgc:=λi c=>@eChs_get l i c
  have h1:=eChs_len l
  have hm:=eChs_mem l
  obtain⟨es,hes⟩:∃es,es=eChs l:=⟨_,rfl⟩
  rw[<- hes] at hgc h1 hm hd
  obtain⟨w,hw⟩:∃w,w=cnvR x l a b row:=⟨_,rfl⟩
  rw[<- hw] at hC hF hC2 hback
  obtain⟨u,hu⟩:∃u,u=cnvR x l b a w:=⟨_,rfl⟩
  rw[<- hu] at hC2 hback
  have hLo:=λc=>C.r14_Lossless c
  clear hb h va va2 hw hu hvk hvn hvok hTs hcf hcl hcs hes
  obtain⟨⟨nm,cs,ks,fs,xs⟩,dc,dk,df,dx⟩:=x
  refine F.bt_law15_MappingBack.go mixed rfl ?_
  by_cases hab:b<a
  ·repeat' first|refine st ?_|((with_reducible first|apply k_pn|apply k_pc);(·first|exact hV|exact hT|exact hC|exact hK|exact hF|exact hA))|(with_reducible first|apply k_d|apply k_b)<;>intro _
   all_goals rfl
  ·repeat' first|refine st ?_|((with_reducible first|apply k_pn|apply k_pc);(·first|exact hV|exact hT|exact hC|exact hK|exact hF|exact hA))|(with_reducible first|apply k_d|apply k_b)<;>intro _
   refine x_loop1 mixed Lt.bt_law15_MappingBack_l0 Lk.bt_law15_MappingBack_l0 (λ(i:Nat)=>[.d (eI i)]) (λi=>[.cells [.d (.str nm),.d dc,.d dk,.d df,.d dx,.d d,.d (eI a),.d (eI b),.d (.sl (eVs row))]]) (λi=>a<=i/\i<=b/\∀(j:Nat) c,a<=j->j<i->l[j]?=some c->losB c=true) (λi=>b-i) a rfl rfl rfl rfl (λ_ _=>⟨rfl,rfl⟩) rfl ⟨Nat.le_refl _,by omega,λj c h1 h2=>by omega⟩ ?_
   repeat' first|refine st ?_|(with_reducible first|apply k_d|apply k_b)<;>intro _
   intro i ⟨g1,g2,g3⟩
   by_cases hib:i<b
   ·obtain⟨c,hc⟩:∃c,l[i]?=some c:=⟨_,List.getElem?_eq_getElem (by omega)⟩
    have hg:es[((i:Nat):Int).toNat]?=some (chds c):=hgc i c hc
    have hil:(i:Int)<es.length:=by omega
    have hLo:=hLo c
    cases hlo:losB c with
    |false=>
     rw[hlo] at hLo
     clear hlo hc
     obtain⟨ck,cnm,to,⟨cn,cck,cl⟩,⟨vk,vn,vs⟩⟩:=c
     repeat' first|refine st ?_|((with_reducible first|apply k_pn|apply k_pc);(·first|exact hLo|exact hA))|(with_reducible first|apply k_d|apply k_b)<;>intro _
     all_goals rfl
    |true=>
     rw[hlo] at hLo
     have g4:∀(j:Nat) c,a<=j->j<i+1->l[j]?=some c->losB c=true:=λj c' h1 h2 h3=>by
      by_cases hji:j=i
      ·subst hji;rw[hc] at h3;cases h3;exact hlo
      ·exact g3 j c' h1 (by omega) h3
     clear hlo hc g3
     obtain⟨ck,cnm,to,⟨cn,cck,cl⟩,⟨vk,vn,vs⟩⟩:=c
     repeat' first|refine st ?_|((with_reducible first|apply k_pn|apply k_pc);(·first|exact hLo|exact hA))|(with_reducible first|apply k_d|apply k_b)<;>intro _
     exact⟨i+1,rfl,rfl,rfl,by omega,by omega,by omega,g4⟩
   ·have hu:u=row:=hback (by omega) λj c h1 h2 h3=>g3 j c h1 (by omega) h3
    subst hu
    clear hback g3 hLo hgc
    repeat' first|refine st ?_|((with_reducible first|apply k_pn|apply k_pc);(·first|exact hC2|exact hE|exact hA))|(with_reducible first|apply k_d|apply k_b)<;>intro _
    all_goals rfl
theorem L.MappingComposes(x:TD)(h:x.ok)(l:List Ch)(hl:l.length<=1048576)(hls:∀c∈l,Cok c)(d:D)(hd:SlD d (eChs l))(a b:Int)(row:List Vl)(hr:row.length<=1048576)(hrs:∀v∈row,v.s.length<=1048576)(dr:D)(hdr:SlD dr (eVs row))(m:Int) :
  Pure Tryz.prog N.bt_law15_MappingComposes [caD x d a b dr,.d (eI m)] (.d (.bool true)):=by
 have hV:=C.law15_valid x h l hl hls d hd a b row hr hrs dr hdr
 have hA:=C.law15_awake
 cases hb:vaB x l a b row with
 |false=>
  rw[hb] at hV
  clear hb h hd hdr
  obtain⟨⟨nm,cs,ks,fs,xs⟩,dc,dk,df,dx⟩:=x
  refine F.bt_law15_MappingComposes.go mixed rfl ?_
  repeat' first|refine st ?_|((with_reducible first|apply k_pn|apply k_pc);(·first|exact hV|exact hA))|(with_reducible first|apply k_d|apply k_b)<;>intro _
  all_goals rfl
 |true=>
  rw[hb] at hV
  obtain⟨a,b,rfl,rfl,va⟩:=vaB_no hb
  by_cases g:(a:Int)<=m/\m<=b\/(b:Int)<=m/\m<=a
  ·obtain⟨m,rfl⟩:∃n:Nat,m=n:=⟨m.toNat,by omega⟩
   have hvb:=va.lb
   have hva:=va.la
   have vm:Va x l a m row:=⟨va.t,va.s,va.la,by omega,va.f⟩
   have hcf:=fits_cnv vm.s vm.la vm.lb vm.f
   obtain⟨hcl,hcs⟩:=fits_bd hcf
   have hne:=vK_ne va.t va.s vm.lb
   have vn:Va x l m b (cnvR x l a m row):=⟨va.t,va.s,vm.lb,va.lb,hcf⟩
   have hC:=C.mapping_Convert x h l hl hls d hd a m row hr hrs dr hdr
   rw[vm.cnv] at hC
   have hC2:=C.mapping_Convert x h l hl hls d hd m b (cnvR x l a m row) (by omega) (λv hv=>by have:=hcs v hv;omega) (.sl (eVs (cnvR x l a m row))) (.inr rfl)
   rw[vn.cnv,cnv_mid row (by omega)] at hC2
   have hC3:=C.mapping_Convert x h l hl hls d hd a b row hr hrs dr hdr
   rw[va.cnv] at hC3
   have hf3:=(fits_bd (fits_cnv va.s va.la va.lb va.f)).1
   have hn3:=(vK_ne va.t va.s va.lb).2
   obtain⟨w,hw⟩:∃w,w=cnvR x l a m row:=⟨_,rfl⟩
   obtain⟨u,hu⟩:∃w,w=cnvR x l a b row:=⟨_,rfl⟩
   rw[<- hw] at hC hC2
   rw[<- hu] at hC2 hC3 hf3
   have hE:=C.eq_self (q:=.sl (eVs u)) (r:=u) (.inr rfl) (by omega)
   clear hb h va vm vn hw hu hcf hcl hcs hd hdr
   obtain⟨⟨nm,cs,ks,fs,xs⟩,dc,dk,df,dx⟩:=x
   refine F.bt_law15_MappingComposes.go mixed rfl ?_
   repeat' first|refine st ?_|((with_reducible first|apply k_pn|apply k_pc);(·first|exact hV|exact hC|exact hC2|exact hC3|exact hE|exact hA))|(with_reducible first|apply k_d|apply k_b)<;>intro _
   all_goals rfl
  ·clear hb h va hd hdr
   obtain⟨⟨nm,cs,ks,fs,xs⟩,dc,dk,df,dx⟩:=x
   refine F.bt_law15_MappingComposes.go mixed rfl ?_
   repeat' first|refine st ?_|((with_reducible first|apply k_pn|apply k_pc);(·first|exact hV|exact hA))|(with_reducible first|apply k_d|apply k_b)<;>intro _
   all_goals rfl
end Go.Proofs
end
section
namespace Go.Proofs
open Go.Bi
abbrev T.co:TypeId:=29
abbrev T.cos:TypeId:=22
abbrev T.fo:TypeId:=79
abbrev T.fos:TypeId:=24
abbrev T.tb:TypeId:=27
theorem cells_co:Tryz.prog.cellsOf T.co=3:=by kernel_rfl
theorem cells_cos:Tryz.prog.cellsOf T.cos=1:=by kernel_rfl
theorem cells_ints:Tryz.prog.cellsOf T.ints=1:=by kernel_rfl
theorem cells_fo:Tryz.prog.cellsOf T.fo=2:=by kernel_rfl
theorem cells_fos:Tryz.prog.cellsOf T.fos=1:=by kernel_rfl
theorem cells_tb:Tryz.prog.cellsOf T.tb=5:=by kernel_rfl
theorem wt_co{ds:List D}(h:WT Tryz.prog T.co ds):∃c:Co,ds=c.ds:=by
 obtain⟨hl,hf⟩:=h.st' Tryz.underlying29
 rw[cells_co] at hl
 match ds,hl with
 |[x,y,z],_=>
  have h0:=hf _ (List.mem_cons_self ..)
  have h1:=hf _ (List.mem_cons_of_mem _ (List.mem_cons_self ..))
  have h2:=hf _ (List.mem_cons_of_mem _ (List.mem_cons_of_mem _ (List.mem_cons_self ..)))
  dsimp only at h0 h1 h2
  rw[cells_str] at h0
  rw[cells_int] at h1
  rw[cells_bool] at h2
  obtain⟨a,ha⟩:=wt_str h0
  obtain⟨b,hb⟩:=wt_int h1
  obtain⟨s,hs⟩:=wt_bool h2
  simp at ha hb hs
  exact⟨⟨a,b,s⟩,by rw[ha,hb,hs]⟩
theorem wt_cos{ds:List D}(h:WT Tryz.prog T.cos ds):∃d l,ds=[d]/\SlD d (eCs l):=by
 obtain⟨d,es,h1,h2,h4,h3⟩:=h.sl' Tryz.underlying22
 have:∃l,es=eCs l:=by
  clear h1 h2 h4
  induction es with
  |nil=>exact⟨[],rfl⟩
  |cons x es ih=>
   obtain⟨n,hn⟩:=wt_co (h3 x (by simp))
   obtain⟨ks,hk⟩:=ih λy hy=>h3 y (by simp[hy])
   exact⟨n::ks,by rw[hn,hk];rfl⟩
 obtain⟨ks,rfl⟩:=this
 exact⟨d,ks,h1,h2⟩
theorem wt_fo{ds:List D}(h:WT Tryz.prog T.fo ds):∃f:Fo,ds=f.ds:=by
 obtain⟨hl,hf⟩:=h.st' Tryz.underlying79
 rw[cells_fo] at hl
 match ds,hl with
 |[x,y],_=>
  have h0:=hf _ (List.mem_cons_self ..)
  have h1:=hf _ (List.mem_cons_of_mem _ (List.mem_cons_self ..))
  dsimp only at h0 h1
  rw[cells_ints] at h0
  rw[cells_str] at h1
  obtain⟨d,ks,ha,hd⟩:=wt_ints h0
  obtain⟨s,hs⟩:=wt_str h1
  simp at ha hs
  rcases hd with ⟨rfl,he⟩|rfl
  ·have:ks=[]:=by cases ks with
    |nil=>rfl
    |cons k ks=>cases he
   subst this
   exact⟨⟨true,[],s⟩,by rw[ha,hs];rfl⟩
  ·exact⟨⟨false,ks,s⟩,by rw[ha,hs];rfl⟩
theorem wt_fos{ds:List D}(h:WT Tryz.prog T.fos ds):∃d l,ds=[d]/\SlD d (eFs l):=by
 obtain⟨d,es,h1,h2,h4,h3⟩:=h.sl' Tryz.underlying24
 have:∃l,es=eFs l:=by
  clear h1 h2 h4
  induction es with
  |nil=>exact⟨[],rfl⟩
  |cons x es ih=>
   obtain⟨n,hn⟩:=wt_fo (h3 x (by simp))
   obtain⟨ks,hk⟩:=ih λy hy=>h3 y (by simp[hy])
   exact⟨n::ks,by rw[hn,hk];rfl⟩
 obtain⟨ks,rfl⟩:=this
 exact⟨d,ks,h1,h2⟩
theorem cos_bulk{d:D}{l:List Co}(h:SlD d (eCs l)):l.length<=bulkL [d]/\∀v∈l,v.nm.length<=bulkL [d]:=by
 have h1:=sld_bulk h
 have h2:(eCs l).length<=bulkLL (eCs l):=bulkLL_len λx hx=>by
  obtain⟨k,_,rfl⟩:=List.mem_map.1 hx
  simp only[Co.ds,bulkL,bulkD];omega
 rw[eCs_len] at h2
 refine⟨by omega,λv hv=>?_⟩
 have h3:bulkL v.ds<=bulkLL (eCs l):=bulkLL_mem (List.mem_map.2 ⟨v,hv,rfl⟩)
 have h4:v.nm.length<=bulkL v.ds:=by simp only[Co.ds,bulkL,bulkD];omega
 omega
theorem fos_bulk{d:D}{l:List Fo}(h:SlD d (eFs l)):l.length<=bulkL [d]/\∀f∈l,f.cs.length<=bulkL [d]/\f.tb.length<=bulkL [d]:=by
 have h1:=sld_bulk h
 have h2:(eFs l).length<=bulkLL (eFs l):=bulkLL_len λx hx=>by
  obtain⟨k,_,rfl⟩:=List.mem_map.1 hx
  simp only[Fo.ds,bulkL,bulkD];omega
 rw[eFs_len] at h2
 refine⟨by omega,λv hv=>?_⟩
 have h3:bulkL v.ds<=bulkLL (eFs l):=bulkLL_mem (List.mem_map.2 ⟨v,hv,rfl⟩)
 have h4:v.tb.length<=bulkL v.ds:=by simp only[Fo.ds,bulkL,bulkD];omega
 have h5:v.cs.length<=bulkL [v.d]:=ints_bulk v.sld
 have h6:bulkL [v.d]<=bulkL v.ds:=by simp only[Fo.ds,bulkL];omega
 omega
theorem exs_bulk{d:D}{l:List Ex}(h:SlD d (xL l)):l.length<=bulkL [d]/\∀e∈l,e.bk<=bulkL [d]:=by
 have h1:=sld_bulk h
 have h2:=xL_bulk_len l
 refine⟨by omega,λv hv=>?_⟩
 have h3:bulkL v.ds<=bulkLL (xL l):=bulkLL_mem (List.mem_map.2 ⟨v,hv,rfl⟩)
 unfold Ex.bk
 omega
theorem tb_tok{t:Tb}{dc dk df dx:D}(hb:bulkL [.str t.nm,dc,dk,df,dx]<=1048576)(hc:SlD dc (eCs t.cs))(hk:SlD dk (eIs t.ks))(hf:SlD df (eFs t.fs))(hx:SlD dx (xL t.xs)):Tok t dc dk df dx:=by
 have h1:=cos_bulk hc
 have h2:=ints_bulk hk
 have h3:=fos_bulk hf
 have h4:=exs_bulk hx
 have e:bulkL [.str t.nm,dc,dk,df,dx]=t.nm.length+1+(bulkL [dc]+(bulkL [dk]+(bulkL [df]+bulkL [dx]))):=by simp only[bulkL,bulkD];omega
 rw[e] at hb
 exact {hn:=by omega,hl:=by omega,hls:=λc hc=>Nat.le_trans (h1.2 c hc) (by omega),hk:=by omega,hfl:=by omega,hfc:=λf hf=>⟨Nat.le_trans (h3.2 f hf).1 (by omega),Nat.le_trans (h3.2 f hf).2 (by omega)⟩,hxs:=by omega,hxb:=λe he=>Nat.le_trans (h4.2 e he) (by omega),dc:=hc,dk:=hk,df:=hf,dx:=hx}
end Go.Proofs
end
section
namespace Go.Proofs
open Go.Bi
abbrev T.ch:TypeId:=33
theorem cells_ch:Tryz.prog.cellsOf T.ch=9:=by kernel_rfl
abbrev Ch.ds(c:Ch):List D:=[eI c.k,.str c.nm,.str c.to,.str c.co.nm,eI c.co.k,.bool c.co.nl,eI c.df.k,eI c.df.n,.str c.df.s]
theorem wt_ch{ds:List D}(h:WT Tryz.prog T.ch ds):∃c:Ch,ds=c.ds:=by
 obtain⟨hl,hf⟩:=h.st' Tryz.underlying33
 rw[cells_ch] at hl
 match ds,hl with
 |[d0,d1,d2,d3,d4,d5,d6,d7,d8],_=>
  have h0:=hf _ (List.mem_cons_self ..)
  have h1:=hf _ (List.mem_cons_of_mem _ (List.mem_cons_self ..))
  have h2:=hf _ (List.mem_cons_of_mem _ (List.mem_cons_of_mem _ (List.mem_cons_self ..)))
  have h3:=hf _ (List.mem_cons_of_mem _ (List.mem_cons_of_mem _ (List.mem_cons_of_mem _ (List.mem_cons_self ..))))
  have h4:=hf _ (List.mem_cons_of_mem _ (List.mem_cons_of_mem _ (List.mem_cons_of_mem _ (List.mem_cons_of_mem _ (List.mem_cons_self ..)))))
  dsimp only at h0 h1 h2 h3 h4
  rw[cells_int] at h0
  rw[cells_str] at h1 h2
  rw[cells_co] at h3
  rw[cells_val] at h4
  obtain⟨k,h0⟩:=wt_int h0
  obtain⟨nm,h1⟩:=wt_str h1
  obtain⟨to,h2⟩:=wt_str h2
  obtain⟨co,h3⟩:=wt_co h3
  obtain⟨df,h4⟩:=wt_val h4
  simp at h0 h1 h2 h3 h4
  obtain⟨e3,e4,e5⟩:=h3
  obtain⟨e6,e7,e8⟩:=h4
  exact⟨⟨k,nm,to,co,df⟩,by rw[h0,h1,h2,e3,e4,e5,e6,e7,e8]⟩
theorem ch_cok{c:Ch}(hb:bulkL c.ds<=1048576):Cok c:=by
 simp only[Ch.ds,bulkL,bulkD] at hb
 exact⟨by omega,by omega,by omega,by omega⟩
end Go.Proofs
end
section
namespace Go.Proofs
open Go.Bi
abbrev TD.ds(x:TD):List D:=[.str x.t.nm,x.dc,x.dk,x.df,x.dx]
theorem wt_td{ds:List D}(h:WT Tryz.prog T.tb ds):∃x:TD,ds=x.ds/\SlD x.dc (eCs x.t.cs)/\SlD x.dk (eIs x.t.ks)/\SlD x.df (eFs x.t.fs)/\SlD x.dx (xL x.t.xs)/\x.t.Rg:=by
 obtain⟨hl,hf⟩:=h.st' Tryz.underlying27
 rw[cells_tb] at hl
 match ds,hl with
 |[d0,d1,d2,d3,d4],_=>
  have h0:=hf _ (List.mem_cons_self ..)
  have h1:=hf _ (List.mem_cons_of_mem _ (List.mem_cons_self ..))
  have h2:=hf _ (List.mem_cons_of_mem _ (List.mem_cons_of_mem _ (List.mem_cons_self ..)))
  have h3:=hf _ (List.mem_cons_of_mem _ (List.mem_cons_of_mem _ (List.mem_cons_of_mem _ (List.mem_cons_self ..))))
  have h4:=hf _ (List.mem_cons_of_mem _ (List.mem_cons_of_mem _ (List.mem_cons_of_mem _ (List.mem_cons_of_mem _ (List.mem_cons_self ..)))))
  dsimp only at h0 h1 h2 h3 h4
  rw[cells_str] at h0
  rw[cells_cos] at h1
  rw[cells_ints] at h2
  rw[cells_fos] at h3
  rw[cells_exs] at h4
  obtain⟨s,hs⟩:=wt_str h0
  obtain⟨dc,l,h1,hc⟩:=wt_cos h1
  obtain⟨dk,ks,h2,hk⟩:=wt_ints h2
  obtain⟨df,fs,h3,hf⟩:=wt_fos h3
  obtain⟨nl,xs,h4,hx⟩:=wt_exsr h4
  simp at hs h1 h2 h3 h4
  exact⟨⟨⟨s,l,ks,fs,xs⟩,dc,dk,df,ng nl (xL xs)⟩,by rw[hs,h1,h2,h3,h4],hc,hk,hf,sld_ng,hx⟩
theorem td_ok{x:TD}(hb:bulkL x.ds<=1048576)(h:SlD x.dc (eCs x.t.cs)/\SlD x.dk (eIs x.t.ks)/\SlD x.df (eFs x.t.fs)/\SlD x.dx (xL x.t.xs)/\x.t.Rg):x.ok:=
 ⟨tb_tok hb h.1 h.2.1 h.2.2.1 h.2.2.2.1,h.2.2.2.2⟩
abbrev T.chs:TypeId:=39
theorem wt_chs{ds:List D}(h:WT Tryz.prog T.chs ds):∃d l,ds=[d]/\SlD d (eChs l):=by
 obtain⟨d,es,h1,h2,h4,h3⟩:=h.sl' Tryz.underlying39
 have:∃l,es=eChs l:=by
  clear h1 h2 h4
  induction es with
  |nil=>exact⟨[],rfl⟩
  |cons x es ih=>
   obtain⟨n,hn⟩:=wt_ch (h3 x (by simp))
   obtain⟨ks,hk⟩:=ih λy hy=>h3 y (by simp[hy])
   exact⟨n::ks,by rw[hn,hk];rfl⟩
 obtain⟨ks,rfl⟩:=this
 exact⟨d,ks,h1,h2⟩
theorem chs_bulk{d:D}{l:List Ch}(h:SlD d (eChs l))(hb:bulkL [d]<=1048576):l.length<=1048576/\∀c∈l,Cok c:=by
 have h1:=sld_bulk h
 have h2:(eChs l).length<=bulkLL (eChs l):=bulkLL_len λx hx=>by
  obtain⟨k,_,rfl⟩:=List.mem_map.1 hx
  simp only[chds,bulkL,bulkD];omega
 rw[eChs_len] at h2
 refine⟨by omega,λv hv=>?_⟩
 have h3:bulkL (chds v)<=bulkLL (eChs l):=bulkLL_mem (List.mem_map.2 ⟨v,hv,rfl⟩)
 exact ch_cok (c:=v) (by show bulkL (chds v)<=_;omega)
end Go.Proofs
end
section
namespace Go.Proofs
open Go.Bi
abbrev T.ca:TypeId:=45
theorem cells_ca:Tryz.prog.cellsOf T.ca=9:=by kernel_rfl
theorem cells_tb2:Tryz.prog.cellsOf T.tb=5:=by kernel_rfl
theorem cells_chs:Tryz.prog.cellsOf T.chs=1:=by kernel_rfl
theorem cells_vals:Tryz.prog.cellsOf T.vals=1:=by kernel_rfl
abbrev caL(x:TD)(d:D)(a b:Int)(dr:D):List D:=[.str x.t.nm,x.dc,x.dk,x.df,x.dx,d,eI a,eI b,dr]
theorem wt_ca{ds:List D}(h:WT Tryz.prog T.ca ds):∃(x:TD)(l:List Ch)(d:D)(a b:Int)(row:List Vl)(dr:D),ds=caL x d a b dr/\(SlD x.dc (eCs x.t.cs)/\SlD x.dk (eIs x.t.ks)/\SlD x.df (eFs x.t.fs)/\SlD x.dx (xL x.t.xs)/\x.t.Rg)/\SlD d (eChs l)/\SlD dr (eVs row):=by
 obtain⟨hl,hf⟩:=h.st' Tryz.underlying45
 rw[cells_ca] at hl
 match ds,hl with
 |[d0,d1,d2,d3,d4,d5,d6,d7,d8],_=>
  have h0:=hf _ (List.mem_cons_self ..)
  have h1:=hf _ (List.mem_cons_of_mem _ (List.mem_cons_self ..))
  have h2:=hf _ (List.mem_cons_of_mem _ (List.mem_cons_of_mem _ (List.mem_cons_self ..)))
  have h3:=hf _ (List.mem_cons_of_mem _ (List.mem_cons_of_mem _ (List.mem_cons_of_mem _ (List.mem_cons_self ..))))
  have h4:=hf _ (List.mem_cons_of_mem _ (List.mem_cons_of_mem _ (List.mem_cons_of_mem _ (List.mem_cons_of_mem _ (List.mem_cons_self ..)))))
  dsimp only at h0 h1 h2 h3 h4
  rw[cells_tb2] at h0
  rw[cells_chs] at h1
  rw[cells_int] at h2 h3
  rw[cells_vals] at h4
  obtain⟨x,h0,hx⟩:=wt_td h0
  obtain⟨d,l,h1,hl⟩:=wt_chs h1
  obtain⟨a,h2⟩:=wt_int h2
  obtain⟨b,h3⟩:=wt_int h3
  obtain⟨dr,row,h4,hr⟩:=wt_vals h4
  simp at h0 h1 h2 h3 h4
  obtain⟨e0,e1,e2,e3,e4⟩:=h0
  exact⟨x,l,d,a,b,row,dr,by rw[e0,e1,e2,e3,e4,h1,h2,h3,h4],hx,hl,hr⟩
theorem av_ca(x:TD)(d:D)(a b:Int)(dr:D):avOf Tryz.prog T.ca (caL x d a b dr)=caD x d a b dr:=by unfold avOf;rw[Tryz.underlying45];rfl
theorem ca_ok{x:TD}{l:List Ch}{d:D}{a b:Int}{row:List Vl}{dr:D}(hb:bulkL (caL x d a b dr)<=1048576)(hx:SlD x.dc (eCs x.t.cs)/\SlD x.dk (eIs x.t.ks)/\SlD x.df (eFs x.t.fs)/\SlD x.dx (xL x.t.xs)/\x.t.Rg)(hl:SlD d (eChs l))(hr:SlD dr (eVs row)) :
  x.ok/\(l.length<=1048576/\∀c∈l,Cok c)/\row.length<=1048576/\∀v∈row,v.s.length<=1048576:=by
 have h1:bulkL x.ds<=1048576:=by simp only[bulkL] at hb ⊢;omega
 have h2:bulkL [d]<=1048576:=by simp only[bulkL] at hb ⊢;omega
 have h3:bulkL [dr]<=1048576:=by simp only[bulkL] at hb ⊢;omega
 have hv:=vals_bulk hr
 exact⟨td_ok h1 hx,chs_bulk hl h2,by omega,λv hm=>Nat.le_trans (hv.2 v hm) h3⟩
end Go.Proofs
end
