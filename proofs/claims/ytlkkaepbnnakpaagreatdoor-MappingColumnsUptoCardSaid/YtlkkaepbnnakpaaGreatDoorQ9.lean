/- Texts of this claim, joined. No condition. -/
import Derived.Test.YtlkkaepbnnakpaaGreatDoorQ8
set_option linter.unusedSimpArgs false
set_option linter.unusedVariables false
set_option maxRecDepth 10000
set_option maxHeartbeats 4000000
section
namespace Go.Proofs
open Go.Bi
structure St where
 x:TD
 y:TD
 c:Ch
abbrev St.ds(s:St):List D:=[.str s.x.t.nm,s.x.dc,s.x.dk,s.x.df,s.x.dx,.str s.y.t.nm,s.y.dc,s.y.dk,s.y.df,s.y.dx,eI s.c.k,.str s.c.nm,.str s.c.to,.str s.c.co.nm,eI s.c.co.k,.bool s.c.co.nl,eI s.c.df.k,eI s.c.df.n,.str s.c.df.s]
abbrev St.av(s:St):AV:=.agg [.d (.str s.x.t.nm),.d s.x.dc,.d s.x.dk,.d s.x.df,.d s.x.dx,.d (.str s.y.t.nm),.d s.y.dc,.d s.y.dk,.d s.y.df,.d s.y.dx,.d (eI s.c.k),.d (.str s.c.nm),.d (.str s.c.to),.d (.str s.c.co.nm),.d (eI s.c.co.k),.d (.bool s.c.co.nl),.d (eI s.c.df.k),.d (eI s.c.df.n),.d (.str s.c.df.s)]
def TD.to(x:TD)(c:Ch):TD:=if evoE x.t c=0 then x.evo c else zTD
theorem TD.to_ok{x:TD}(h:x.ok){c:Ch}(hc:Cok c):(x.to c).ok:=by
 unfold TD.to
 split
 ·exact TD.evo_ok h hc (by assumption)
 ·exact zTD_ok
theorem C.mapping_newStep(x:TD)(h:x.ok)(c:Ch)(hc:Cok c):Pure Tryz.prog N.mapping_newStep [x.av,c.av] (.tup [(St.mk x (x.to c) c).av,.d (.bool (decide (evoE x.t c=0)))]):=by
 have hA:Bi.Pure Tryz.prog N.evolve_Apply [x.av,c.av] (.tup [(x.to c).av,.d (eI (evoE x.t c))]):=by
  unfold TD.to
  by_cases hq:evoE x.t c=0
  ·rw[if_pos hq,hq];exact C.evo_Apply x h c hc hq
  ·rw[if_neg hq];exact C.evo_ApplyErr x h c hc hq
 obtain⟨y,hy⟩:∃y,y=x.to c:=⟨_,rfl⟩
 rw[<- hy] at hA ⊢
 obtain⟨e,he⟩:∃e,e=evoE x.t c:=⟨_,rfl⟩
 rw[<- he] at hA ⊢
 have hA:Bi.Pure Tryz.prog N.evolve_Apply [x.av,c.av] (.tup [eT y.t.nm y.dc y.dk y.df y.dx,.d (eI e)]):=hA
 obtain⟨⟨nm,cs,ks,fs,xs⟩,dc,dk,df,dx⟩:=x
 obtain⟨k,cnm,to,⟨cn,ck,cl⟩,⟨vk,vn,vs⟩⟩:=c
 clear he hy
 refine F.mapping_newStep.go mixed rfl ?_
 repeat' first|refine st ?_|((with_reducible first|apply k_pn|apply k_pc);(·exact hA))|(with_reducible first|apply k_d|apply k_b)<;>intro _
 all_goals rfl
def plI(t:Tb)(c:Ch):Int:=if c.k=1 then t.cs.length else findC c.nm t.cs
theorem C.mapping_place(s:St)(h:s.x.ok):Pure Tryz.prog N.mapping_step_place [s.av] (.d (eI (plI s.x.t s.c))):=by
 have hF:=C.schema_Find s.x.t.nm s.x.t.cs h.tok.hl s.x.dc s.x.dk s.x.df s.x.dx h.tok.dc s.c.nm
 have hdc:=h.tok.dc
 have hcl:=eCs_len s.x.t.cs
 have hl:=h.tok.hl
 obtain⟨q,hq⟩:∃q,q=plI s.x.t s.c:=⟨_,rfl⟩
 rw[<- hq]
 unfold plI at hq
 obtain⟨f,hf⟩:∃f,f=findC s.c.nm s.x.t.cs:=⟨_,rfl⟩
 rw[<- hf] at hF hq
 obtain⟨Cs,hCs⟩:∃z,z=eCs s.x.t.cs:=⟨_,rfl⟩
 rw[<- hCs] at hdc hcl
 clear hf hCs h
 obtain⟨⟨⟨nm,cs,ks,fs,xs⟩,dc,dk,df,dx⟩,y,⟨k,cnm,to,⟨cn,ck,cl⟩,⟨vk,vn,vs⟩⟩⟩:=s
 dsimp only at hq hF hdc hcl hl
 by_cases h1:k=1
 ·rw[if_pos h1] at hq
  subst hq
  refine F.mapping_step_place.go mixed rfl ?_
  repeat' first|refine st ?_|(with_reducible first|apply k_d|apply k_b)<;>intro _
  all_goals first|rfl|(rw[hcl];rfl)|rw[hcl]
 ·rw[if_neg h1] at hq
  subst hq
  refine F.mapping_step_place.go mixed rfl ?_
  repeat' first|refine st ?_|((with_reducible first|apply k_pn|apply k_pc);(·exact hF))|(with_reducible first|apply k_d|apply k_b)<;>intro _
  all_goals rfl
def stL(x:TD):List Ch->List St
 |[]=>[]
 |c::r=>⟨x,x.to c,c⟩::stL (x.to c) r
def stB(x:TD):List Ch->Bool
 |[]=>true
 |c::r=>decide (evoE x.t c=0)&&stB (x.to c) r
def stE(x:TD)(l:List Ch):Bool:=decide (tabE x.t=0)&&stB x l
theorem stL_len:∀(l:List Ch)(x:TD),(stL x l).length=l.length
 |[],_=>rfl
 |c::r,x=>by rw[stL,List.length_cons,List.length_cons,stL_len r]
def eSt(l:List St):List (List D):=l.map St.ds
theorem eSt_len(l:List St):(eSt l).length=l.length:=by simp[eSt]
theorem eSt_get{l:List St}{i:Nat}{s:St}(h:l[i]?=some s):(eSt l)[i]?=some s.ds:=by simp[eSt,h]
theorem eSt_mem(l:List St):∀e∈eSt l,e.length=19:=by
 intro e he
 obtain⟨x,_,rfl⟩:=List.mem_map.1 he
 rfl
def chn(x:TD):List Ch->TD
 |[]=>x
 |c::r=>chn (x.to c) r
theorem chn_ok:∀(l:List Ch){x:TD},x.ok->(∀c∈l,Cok c)->(chn x l).ok
 |[],x,h,_=>h
 |c::r,x,h,hc=>chn_ok r (TD.to_ok h (hc c (by simp))) λd hd=>hc d (by simp[hd])
theorem chn_snoc:∀(l:List Ch)(x:TD)(c:Ch),chn x (l++[c])=(chn x l).to c
 |[],x,c=>rfl
 |d::r,x,c=>chn_snoc r (x.to d) c
theorem stL_get:∀{l:List Ch}{x:TD}{i:Nat}{c:Ch},l[i]?=some c->(stL x l)[i]?=some ⟨chn x (l.take i),(chn x (l.take i)).to c,c⟩
 |[],x,i,c,h=>by simp at h
 |a::r,x,0,c,h=>by simp at h;subst h;rfl
 |a::r,x,i+1,c,h=>by
  rw[List.getElem?_cons_succ] at h
  rw[stL,List.getElem?_cons_succ,stL_get h];rfl
theorem stB_drop{x:TD}{l:List Ch}{i:Nat}{c:Ch}(h:l[i]?=some c):stB x (l.drop i)=(decide (evoE x.t c=0)&&stB (x.to c) (l.drop (i+1))):=by
 obtain⟨hlt,he⟩:=List.getElem?_eq_some_iff.1 h
 rw[List.drop_eq_getElem_cons hlt,he,stB]
theorem take_one{l:List Ch}{i:Nat}{c:Ch}(h:l[i]?=some c):l.take (i+1)=l.take i++[c]:=by rw[List.take_add_one,h];rfl
theorem C.mapping_steps(x:TD)(h:x.ok)(l:List Ch)(hl:l.length<=1048576)(hls:∀c∈l,Cok c)(d:D)(hd:SlD d (eChs l)) :
  Pure Tryz.prog N.mapping_steps [x.av,.d d] (.tup [.d (if stE x l then slD (eSt (stL x l)).isEmpty (eSt (stL x l)) else .nil),.d (.bool (stE x l))]):=by
 have hT:=C.schema_Check x.t x.dc x.dk x.df x.dx h.tok
 obtain⟨R,hR⟩:∃R,R=(if stE x l then slD (eSt (stL x l)).isEmpty (eSt (stL x l)) else .nil):=⟨_,rfl⟩
 obtain⟨b,hb⟩:∃R,R=stE x l:=⟨_,rfl⟩
 rw[<- hR,<- hb]
 rw[<- hb] at hR
 unfold stE at hb
 have h1:=eChs_len l
 have hm:=eChs_mem l
 have hg0:=λi c=>@eChs_get l i c
 obtain⟨es,hes⟩:∃es,es=eChs l:=⟨_,rfl⟩
 rw[<- hes] at h1 hm hd hg0
 by_cases hq:tabE x.t=0
 rotate_left
 ·rw[decide_eq_false hq,Bool.false_and] at hb
  subst hb
  rw[if_neg (by decide)] at hR
  subst hR
  obtain⟨q,hqq⟩:∃q,q=tabE x.t:=⟨_,rfl⟩
  rw[<- hqq] at hT hq
  refine F.mapping_steps.go mixed rfl ?_
  repeat' first|refine st ?_|((with_reducible first|apply k_pn|apply k_pc);(·exact hT))|(with_reducible first|apply k_d|apply k_b)<;>intro _
  all_goals rfl
 ·rw[decide_eq_true hq,Bool.true_and] at hb
  rw[hq] at hT
  obtain⟨S,hS⟩:∃S,S=stL x l:=⟨_,rfl⟩
  rw[<- hS] at hR
  have hSl:S.length=l.length:=by rw[hS];exact stL_len l x
  obtain⟨x0,hx0⟩:∃z,z=x:=⟨_,rfl⟩
  have hSg:∀(i:Nat) c,l[i]?=some c->S[i]?=some ⟨chn x0 (l.take i),(chn x0 (l.take i)).to c,c⟩:=λi c hc=>by rw[hS,hx0];exact stL_get hc
  have hok0:∀i,(chn x0 (l.take i)).ok:=λi=>by rw[hx0];exact chn_ok _ h λc hc=>hls c (List.mem_of_mem_take hc)
  have hst:chn x0 (l.take 0)=x:=by rw[hx0];rfl
  clear hx0 hS h
  refine F.mapping_steps.go mixed rfl ?_
  obtain⟨⟨nm,cs,ks,fs,xs⟩,dc,dk,df,dx⟩:=x
  have hT:Bi.Pure Tryz.prog N.schema_Check [eT nm dc dk df dx] (.d (eI 0)):=hT
  repeat' first|refine st ?_|((with_reducible first|apply k_pn|apply k_pc);(·exact hT))|(with_reducible first|apply k_d|apply k_b)<;>intro _
  refine x_nil 6 19 rfl rfl ?_
  refine x_loop2 mixed Lt.mapping_steps_l0 Lk.mapping_steps_l0 (λ(i:Nat) (w:List (List D)×TD)=>[.arr 1 w.1.length,.d (eI i)]) (λi w=>[.cells [.d (.str w.2.t.nm),.d w.2.dc,.d w.2.dk,.d w.2.df,.d w.2.dx],.arr w.1 19 0 w.1.isEmpty]) (λi w=>i<=l.length/\w.1=eSt (S.take i)/\w.2=chn x0 (l.take i)/\b=stB w.2 (l.drop i)) (λi w=>l.length-i) 0 ([],⟨⟨nm,cs,ks,fs,xs⟩,dc,dk,df,dx⟩) rfl rfl rfl rfl (λ_ _ _=>⟨rfl,rfl⟩) rfl ⟨by omega,rfl,hst.symm,hb⟩ ?_
  repeat' first|refine st ?_|(with_reducible first|apply k_d|apply k_b)<;>intro _
  intro i w ⟨g1,g2,g3,g4⟩
  obtain⟨A,y⟩:=w
  dsimp only at g2 g3 g4 ⊢
  have hAl:A.length=i:=by rw[g2,eSt_len,List.length_take];omega
  have hAm:∀e∈A,e.length=19:=by rw[g2];exact eSt_mem _
  cases hx:l[i]? with
  |some c=>
   have hlt:=(List.getElem?_eq_some_iff.1 hx).1
   have hcok:=hls c (List.mem_of_getElem? hx)
   have hg:=hg0 i c hx
   have hyok:=hok0 i
   have hSi:=hSg i c hx
   rw[<- g3] at hyok hSi
   rw[stB_drop hx] at g4
   have hN:=C.mapping_newStep y hyok c hcok
   have hs:A++[(St.mk y (y.to c) c).ds]=eSt (S.take (i+1)):=by rw[g2,List.take_add_one,hSi];simp[eSt]
   have hc1:chn x0 (l.take (i+1))=y.to c:=by rw[take_one hx,chn_snoc,<- g3]
   obtain⟨z,hz⟩:∃z,z=y.to c:=⟨_,rfl⟩
   rw[<- hz] at hN hs hc1 g4
   by_cases he:evoE y.t c=0
   ·rw[decide_eq_true he] at hN g4
    rw[Bool.true_and] at g4
    obtain⟨ck,cnm,to,⟨cn,cck,cl⟩,⟨vk,vn,vs⟩⟩:=c
    have hN:Bi.Pure Tryz.prog N.mapping_newStep [eT y.t.nm y.dc y.dk y.df y.dx,chD ck cnm to cn cck cl vk vn vs] (.tup [(St.mk y z ⟨ck,cnm,to,⟨cn,cck,cl⟩,⟨vk,vn,vs⟩⟩).av,.d (.bool true)]):=hN
    clear g2 g3 hR hb
    repeat' first|refine st ?_|((with_reducible first|apply k_pn|apply k_pc);(·exact hN))|(with_reducible first|apply k_d|apply k_b)<;>intro _
    exact⟨i+1,(A++[_],z),rfl,rfl,by first|rfl|(simp;done),by omega,by omega,hs,hc1.symm,g4⟩
   ·rw[decide_eq_false he] at hN g4
    rw[Bool.false_and] at g4
    subst g4
    rw[if_neg (by decide)] at hR
    subst hR
    obtain⟨ck,cnm,to,⟨cn,cck,cl⟩,⟨vk,vn,vs⟩⟩:=c
    have hN:Bi.Pure Tryz.prog N.mapping_newStep [eT y.t.nm y.dc y.dk y.df y.dx,chD ck cnm to cn cck cl vk vn vs] (.tup [(St.mk y z ⟨ck,cnm,to,⟨cn,cck,cl⟩,⟨vk,vn,vs⟩⟩).av,.d (.bool false)]):=hN
    clear g2 g3
    repeat' first|refine st ?_|((with_reducible first|apply k_pn|apply k_pc);(·exact hN))|(with_reducible first|apply k_d|apply k_b)<;>intro _
    all_goals rfl
  |none=>
   have hge:=List.getElem?_eq_none_iff.1 hx
   rw[List.drop_of_length_le hge] at g4
   rw[List.take_of_length_le (by omega)] at g2
   have g4:b=true:=g4
   subst g4
   rw[if_pos rfl,<- g2] at hR
   subst hR
   clear g2 hb
   repeat' first|refine st ?_|(with_reducible first|apply k_d|apply k_b)<;>intro _
   all_goals first|rfl|(cases A<;>rfl)
def eTs(l:List TD):List (List D):=l.map λx=>[.str x.t.nm,x.dc,x.dk,x.df,x.dx]
theorem eTs_len(l:List TD):(eTs l).length=l.length:=by simp[eTs]
theorem eTs_mem(l:List TD):∀e∈eTs l,e.length=5:=by
 intro e he
 obtain⟨x,_,rfl⟩:=List.mem_map.1 he
 rfl
theorem eTs_get{l:List TD}{i:Nat}{x:TD}(h:l[i]?=some x):(eTs l)[i]?=some [.str x.t.nm,x.dc,x.dk,x.df,x.dx]:=by simp[eTs,h]
def tabL(x:TD)(l:List Ch):List TD:=x.cp::(stL x l).map λs=>s.y.cp
def tabD(x:TD)(l:List Ch):D:=if stE x l then .sl (eTs (tabL x l)) else .nil
end Go.Proofs
end
section
namespace Go.Proofs
open Go.Bi
theorem C.r14_lower(ks:List Int)(hk:ks.length<=1048576)(hb:∀k∈ks,0<=k/\k<=1048576)(i:Int)(d:D)(hd:SlD d (eIs ks)):Pure Tryz.prog N.bt_ref14_lower [.d d,.d (eI i)] (.d (.sl (eIs (ks.map λc=>belowI c i)))):=by
 refine F.bt_ref14_lower.go mixed rfl ?_
 have h1:=eIs_len ks
 obtain⟨R,hR⟩:∃R,R=eIs (ks.map λc=>belowI c i):=⟨_,rfl⟩
 rw[<- hR]
 repeat' first|refine st ?_|((with_reducible apply go_i);conv=>whnf)|(with_reducible first|apply k_d|apply k_b)<;>intro _
 refine x_loop2 mixed Lt.bt_ref14_lower_l0 Lk.bt_ref14_lower_l0 (λ(j:Nat) (es:List (List D))=>[.arr 0 es.length,.d (eI j)]) (λj es=>[.arr es 1 0 false]) (λj es=>j<=ks.length/\es=eIs ((ks.take j).map λc=>belowI c i)) (λj _=>ks.length-j) 0 [] rfl rfl rfl rfl (λ_ _ _=>⟨rfl,rfl⟩) rfl ⟨by omega,rfl⟩ ?_
 repeat' first|refine st ?_|((with_reducible apply go_i);conv=>whnf)|(with_reducible first|apply k_d|apply k_b)<;>intro _
 intro j es ⟨h2,h3⟩
 have hes:es.length=j:=by rw[h3,eIs_len,List.length_map,List.length_take];omega
 have hem:∀e∈es,e.length=1:=by rw[h3];exact eIs_mem _
 cases hx:ks[j]? with
 |some c=>
  have hlt:=(List.getElem?_eq_some_iff.1 hx).1
  have hg:=eIs_get hx
  obtain⟨b1,b2⟩:=hb c (List.mem_of_getElem? hx)
  have hs:es++[[eI (belowI c i)]]=eIs ((ks.take (j+1)).map λc=>belowI c i):=by rw[h3,List.take_add_one,hx];simp[eIs]
  unfold belowI at hs
  by_cases hc:i<c
  ·rw[if_pos hc] at hs
   clear h3
   repeat' first|refine st ?_|((with_reducible apply go_i);conv=>whnf)|(with_reducible first|apply k_d|apply k_b)<;>intro _
   exact⟨j+1,es++[[eI (c-1)]],rfl,rfl,rfl,by omega,by omega,hs⟩
  ·rw[if_neg hc] at hs
   clear h3
   repeat' first|refine st ?_|((with_reducible apply go_i);conv=>whnf)|(with_reducible first|apply k_d|apply k_b)<;>intro _
   exact⟨j+1,es++[[eI c]],rfl,rfl,rfl,by omega,by omega,hs⟩
 |none=>
  have hge:=List.getElem?_eq_none_iff.1 hx
  rw[List.take_of_length_le hge,<- hR] at h3
  subst h3
  repeat' first|refine st ?_|((with_reducible apply go_i);conv=>whnf)|(with_reducible first|apply k_d|apply k_b)<;>intro _
  all_goals rfl
theorem C.r14_moved(i:Nat):∀e:Ex,e.bk<=1048576->e.Rg->Pure Tryz.prog N.bt_ref14_moved [e.av,.d (eI i)] (dnX i e).av:=by
 refine Ex.ind λop n v nm nl args ih hb hr=>?_
 obtain⟨b1,b2,b3,b4⟩:=Ex.bk_bounds hb
 cases hr with
 |mk r1 r2 hra=>
 rw[dn_mk,Ex.av_mk]
 have h1:=xL_len args
 have hm:=xL_mem args
 obtain⟨da,hda⟩:∃d,d=ng nl (xL args):=⟨_,rfl⟩
 have hsd:SlD da (xL args):=by rw[hda];exact sld_ng
 rw[<- hda]
 have r0:v.k=v.k:=rfl
 have r1':v.s=v.s:=rfl
 have r2':nm=nm:=rfl
 have q1:IntKind.i64.min=-9223372036854775808:=rfl
 have q2:IntKind.i64.max=9223372036854775807:=rfl
 obtain⟨n',hn'⟩:∃n',n'=(if op=2 then belowI n i else n):=⟨_,rfl⟩
 rw[<- hn',Ex.av_mk,ng_true]
 have key:(op=2/\(i:Int)<n/\n-1=n')\/(op=2/\¬(i:Int)<n/\n=n')\/(op≠2/\n=n'):=by
  by_cases h2:op=2
  ·rw[if_pos h2] at hn'
   unfold belowI at hn'
   by_cases h3:(i:Int)<n
   ·rw[if_pos h3] at hn';exact .inl ⟨h2,h3,hn'.symm⟩
   ·rw[if_neg h3] at hn';exact .inr (.inl ⟨h2,h3,hn'.symm⟩)
  ·rw[if_neg h2] at hn';exact .inr (.inr ⟨h2,hn'.symm⟩)
 clear hn'
 refine F.bt_ref14_moved.go mixed rfl ?_
 rcases key with ⟨g1,g2,rfl⟩|⟨g1,g2,rfl⟩|⟨g1,rfl⟩
 ·subst g1
  repeat' first|refine st ?_|((with_reducible apply go_i);conv=>whnf)|(with_reducible first|apply k_d|apply k_b)<;>intro _
  refine x_nilc 2 6 7 rfl rfl rfl ?_
  refine x_loop2 mixed Lt.bt_ref14_moved_l0 Lk.bt_ref14_moved_l0 (λ(j:Nat) (w:List (List D)×Bool)=>[.d (eI j)]) (λj w=>[.cells [.d (eI 2),.d (eI n),.d (eI v.k),.d (eI v.n),.d (.str v.s),.d (.str nm),.d da],.cells [.d (eI 0),.d (eI 0),.d (eI 0),.d (eI 0),.d (.str []),.d (.str []),.d .nil],.cells [.d (eI 2),.d (eI (n-1)),.d (eI v.k),.d (eI v.n),.d (.str v.s),.d (.str nm),.arr 3 w.1.length],.arr w.1 7 0 w.2]) (λj w=>j<=args.length/\w.1=Mt (dnX i) args j/\w.2=w.1.isEmpty) (λj w=>args.length-j) 0 ([],true) rfl rfl rfl rfl (λ_ _ _=>⟨rfl,rfl⟩) rfl ⟨by omega,rfl,rfl⟩ ?_
  repeat' first|refine st ?_|((with_reducible apply go_i);conv=>whnf)|(with_reducible first|apply k_d|apply k_b)<;>intro _
  intro j w ⟨h4,h5,h6⟩
  obtain⟨A,b⟩:=w
  dsimp only at h5 h6 ⊢
  have hAl:A.length=j:=by rw[h5];exact Mt_len _ args j (by omega)
  have hAm:∀e∈A,e.length=7:=by rw[h5];exact Mt_mem _ _ _
  cases hx:args[j]? with
  |some x=>
   have hlt:=(List.getElem?_eq_some_iff.1 hx).1
   have hs:=Mt_succ (φ:=dnX i) hx
   have hg:=xL_get hx
   have hi:=ih x (List.mem_of_getElem? hx) (b4 x (List.mem_of_getElem? hx)) (hra x (List.mem_of_getElem? hx))
   rw[<- h5] at hs
   obtain⟨z,hz⟩:∃z,z=dnX i x:=⟨_,rfl⟩
   rw[<- hz] at hs hi
   obtain⟨o1,n1,v1,m1,l1,a1⟩:=x
   obtain⟨o2,n2,v2,m2,l2,a2⟩:=z
   rw[Ex.ds_mk] at hg hs
   rw[Ex.av_mk,Ex.av_mk] at hi
   repeat' first|refine st ?_|((with_reducible apply go_i);conv=>whnf)|((with_reducible first|apply k_pn|apply k_pc);(·exact hi))|(with_reducible first|apply k_d|apply k_b)<;>intro _
   exact⟨j+1,(A++[xds o2 n2 v2 m2 (ng l2 (xL a2))],false),rfl,rfl,rfl,by omega,by omega,hs,by simp⟩
  |none=>
   have hge:=List.getElem?_eq_none_iff.1 hx
   rw[Mt_end hge] at h5
   rw[<- h5,<- h6]
   cases b with
   |true=>
    rw[if_pos rfl]
    repeat' first|refine st ?_|((with_reducible apply go_i);conv=>whnf)|(with_reducible first|apply k_d|apply k_b)<;>intro _
    all_goals rfl
   |false=>
    rw[if_neg (by simp)]
    repeat' first|refine st ?_|((with_reducible apply go_i);conv=>whnf)|(with_reducible first|apply k_d|apply k_b)<;>intro _
    all_goals rfl
 all_goals
  repeat' first|refine st ?_|((with_reducible apply go_i);conv=>whnf)|(with_reducible first|apply k_d|apply k_b)<;>intro _
  refine x_nilc 2 6 7 rfl rfl rfl ?_
  refine x_loop2 mixed Lt.bt_ref14_moved_l0 Lk.bt_ref14_moved_l0 (λ(j:Nat) (w:List (List D)×Bool)=>[.d (eI j)]) (λj w=>[.cells [.d (eI op),.d (eI n),.d (eI v.k),.d (eI v.n),.d (.str v.s),.d (.str nm),.d da],.cells [.d (eI 0),.d (eI 0),.d (eI 0),.d (eI 0),.d (.str []),.d (.str []),.d .nil],.cells [.d (eI op),.d (eI n),.d (eI v.k),.d (eI v.n),.d (.str v.s),.d (.str nm),.arr 3 w.1.length],.arr w.1 7 0 w.2]) (λj w=>j<=args.length/\w.1=Mt (dnX i) args j/\w.2=w.1.isEmpty) (λj w=>args.length-j) 0 ([],true) rfl rfl rfl rfl (λ_ _ _=>⟨rfl,rfl⟩) rfl ⟨by omega,rfl,rfl⟩ ?_
  repeat' first|refine st ?_|((with_reducible apply go_i);conv=>whnf)|(with_reducible first|apply k_d|apply k_b)<;>intro _
  intro j w ⟨h4,h5,h6⟩
  obtain⟨A,b⟩:=w
  dsimp only at h5 h6 ⊢
  have hAl:A.length=j:=by rw[h5];exact Mt_len _ args j (by omega)
  have hAm:∀e∈A,e.length=7:=by rw[h5];exact Mt_mem _ _ _
  cases hx:args[j]? with
  |some x=>
   have hlt:=(List.getElem?_eq_some_iff.1 hx).1
   have hs:=Mt_succ (φ:=dnX i) hx
   have hg:=xL_get hx
   have hi:=ih x (List.mem_of_getElem? hx) (b4 x (List.mem_of_getElem? hx)) (hra x (List.mem_of_getElem? hx))
   rw[<- h5] at hs
   obtain⟨z,hz⟩:∃z,z=dnX i x:=⟨_,rfl⟩
   rw[<- hz] at hs hi
   obtain⟨o1,n1,v1,m1,l1,a1⟩:=x
   obtain⟨o2,n2,v2,m2,l2,a2⟩:=z
   rw[Ex.ds_mk] at hg hs
   rw[Ex.av_mk,Ex.av_mk] at hi
   repeat' first|refine st ?_|((with_reducible apply go_i);conv=>whnf)|((with_reducible first|apply k_pn|apply k_pc);(·exact hi))|(with_reducible first|apply k_d|apply k_b)<;>intro _
   exact⟨j+1,(A++[xds o2 n2 v2 m2 (ng l2 (xL a2))],false),rfl,rfl,rfl,by omega,by omega,hs,by simp⟩
  |none=>
   have hge:=List.getElem?_eq_none_iff.1 hx
   rw[Mt_end hge] at h5
   rw[<- h5,<- h6]
   cases b with
   |true=>
    rw[if_pos rfl]
    repeat' first|refine st ?_|((with_reducible apply go_i);conv=>whnf)|(with_reducible first|apply k_d|apply k_b)<;>intro _
    all_goals rfl
   |false=>
    rw[if_neg (by simp)]
    repeat' first|refine st ?_|((with_reducible apply go_i);conv=>whnf)|(with_reducible first|apply k_d|apply k_b)<;>intro _
    all_goals rfl
theorem C.r14_Index(t:Tb)(dc dk df dx:D)(h:Tok t dc dk df dx)(c:Ch)(hc:Cok c)(k:Int):Pure Tryz.prog N.bt_ref14_Index [eT t.nm dc dk df dx,c.av,.d (eI k)] (.d (eI (idxE t c k))):=by
 have hC:=C.r14_Check t dc dk df dx h c hc
 have hF:=C.r13_Find t.nm t.cs h.hl dc dk df dx h.dc c.nm
 have hl:=h.hl
 have hdc:=h.dc
 have hcl:=eCs_len t.cs
 obtain⟨q,hq⟩:∃q,q=idxE t c k:=⟨_,rfl⟩
 rw[<- hq]
 unfold idxE at hq
 obtain⟨e,he⟩:∃e,e=evoE t c:=⟨_,rfl⟩
 rw[<- he] at hC hq
 obtain⟨f,hf⟩:∃f,f=findC c.nm t.cs:=⟨_,rfl⟩
 rw[<- hf] at hF hq
 obtain⟨n,hn⟩:∃n,n=t.cs.length:=⟨_,rfl⟩
 rw[<- hn] at hcl hl hq
 obtain⟨Cs,hCs⟩:∃x,x=eCs t.cs:=⟨_,rfl⟩
 rw[<- hCs] at hcl hdc
 clear h hf he hn hCs
 obtain⟨ck,nm,to,⟨cn,cck,cl⟩,⟨vk,vn,vs⟩⟩:=c
 dsimp only at hq hF hC
 by_cases g1:e≠0\/k<0\/(n:Int)<=k
 ·rw[if_pos g1] at hq
  subst hq
  by_cases g2:e=0
  rotate_left
  ·refine F.bt_ref14_Index.go mixed rfl ?_
   repeat' first|refine st ?_|((with_reducible apply go_i);conv=>whnf)|((with_reducible first|apply k_pn|apply k_pc);(·exact hC))|(with_reducible first|apply k_d|apply k_b)<;>intro _
   all_goals rfl
  by_cases g3:k<0
  ·refine F.bt_ref14_Index.go mixed rfl ?_
   repeat' first|refine st ?_|((with_reducible apply go_i);conv=>whnf)|((with_reducible first|apply k_pn|apply k_pc);(·exact hC))|(with_reducible first|apply k_d|apply k_b)<;>intro _
   all_goals rfl
  have g4:(n:Int)<=k:=by omega
  refine F.bt_ref14_Index.go mixed rfl ?_
  repeat' first|refine st ?_|((with_reducible apply go_i);conv=>whnf)|((with_reducible first|apply k_pn|apply k_pc);(·exact hC))|(with_reducible first|apply k_d|apply k_b)<;>intro _
  all_goals rfl
 ·rw[if_neg g1] at hq
  have g2:e=0:=by omega
  have g3:0<=k:=by omega
  have g4:k<n:=by omega
  subst g2
  by_cases g5:ck=2
  rotate_left
  ·rw[if_pos g5] at hq
   subst hq
   refine F.bt_ref14_Index.go mixed rfl ?_
   repeat' first|refine st ?_|((with_reducible apply go_i);conv=>whnf)|((with_reducible first|apply k_pn|apply k_pc);(·exact hC))|(with_reducible first|apply k_d|apply k_b)<;>intro _
   all_goals rfl
  subst g5
  rw[if_neg (by decide)] at hq
  by_cases g6:f=k
  ·rw[if_pos g6] at hq
   subst hq
   subst g6
   have r1:f=f:=rfl
   refine F.bt_ref14_Index.go mixed rfl ?_
   repeat' first|refine st ?_|((with_reducible apply go_i);conv=>whnf)|((with_reducible first|apply k_pn|apply k_pc);(·first|exact hC|exact hF))|(with_reducible first|apply k_d|apply k_b)<;>intro _
   all_goals rfl
  ·rw[if_neg g6] at hq
   have g7:¬k=f:=λe=>g6 e.symm
   unfold belowI at hq
   by_cases g8:f<k
   ·rw[if_pos g8] at hq
    subst hq
    refine F.bt_ref14_Index.go mixed rfl ?_
    repeat' first|refine st ?_|((with_reducible apply go_i);conv=>whnf)|((with_reducible first|apply k_pn|apply k_pc);(·first|exact hC|exact hF))|(with_reducible first|apply k_d|apply k_b)<;>intro _
    all_goals rfl
   ·rw[if_neg g8] at hq
    subst hq
    refine F.bt_ref14_Index.go mixed rfl ?_
    repeat' first|refine st ?_|((with_reducible apply go_i);conv=>whnf)|((with_reducible first|apply k_pn|apply k_pc);(·first|exact hC|exact hF))|(with_reducible first|apply k_d|apply k_b)<;>intro _
    all_goals rfl
end Go.Proofs
end
section
namespace Go.Proofs
open Go.Bi
def F0(l:List Fo):List (List D):=eFs (l.map nfF)
theorem F0_len(l:List Fo):(F0 l).length=l.length:=by unfold F0;rw[eFs_len,List.length_map]
theorem F0_mem(l:List Fo):∀e∈F0 l,e.length=2:=eFs_mem _
theorem F0_succ{l:List Fo}{i:Nat}{f:Fo}(h:l[i]?=some f):F0 (l.take i)++[[.sl (eIs f.cs),.str f.tb]]=F0 (l.take (i+1)):=by
 unfold F0
 rw[List.take_add_one,h]
 simp[eFs,nfF,Fo.ds,Fo.d,ng]
theorem C.r13_CloneO(x:TD)(h:x.ok):CallSpec Tryz.prog N.bt_ref13_Clone [x.av] [] (λr os=>r=.agg [.d (.str x.t.nm),.arr 3 (eCs x.t.cs).length,.arr 4 (eIs x.t.ks).length,.arr 5 (F0 x.t.fs).length,.arr 6 (xL (x.t.xs.map cpX)).length]/\
  ∃a b c,os=[a,b,c,.arr (eCs x.t.cs) 3 0 (eCs x.t.cs).isEmpty,.arr (eIs x.t.ks) 1 0 (eIs x.t.ks).isEmpty,.arr (F0 x.t.fs) 2 0 (F0 x.t.fs).isEmpty,.arr (xL (x.t.xs.map cpX)) 7 0 (xL (x.t.xs.map cpX)).isEmpty]):=by
 obtain⟨⟨nm,cs,ks,fs,xs⟩,dc,dk,df,dx⟩:=x
 obtain⟨⟨h1,h2,h3,h4,h5,h6,h7,h8,h9,h10,h11,h12⟩,hr⟩:=h
 dsimp only at h1 h2 h3 h4 h5 h6 h7 h8 h9 h10 h11 h12 hr ⊢
 have c1:=eCs_len cs
 have c2:=eCs_mem cs
 have k1:=eIs_len ks
 have k2:=eIs_mem ks
 have f1:=eFs_len fs
 have f2:=eFs_mem fs
 have f3:=λi f=>@eFs_get fs i f
 have x1:=xL_len xs
 have x2:=xL_mem xs
 have x3:=xL_get'' (args:=xs)
 obtain⟨Cs,hCs⟩:∃z,z=eCs cs:=⟨_,rfl⟩
 obtain⟨Ks,hKs⟩:∃z,z=eIs ks:=⟨_,rfl⟩
 obtain⟨Fs,hFs⟩:∃z,z=eFs fs:=⟨_,rfl⟩
 obtain⟨Xs,hXs⟩:∃z,z=xL xs:=⟨_,rfl⟩
 obtain⟨FR,hFR⟩:∃z,z=F0 fs:=⟨_,rfl⟩
 obtain⟨XR,hXR⟩:∃z,z=xL (xs.map cpX):=⟨_,rfl⟩
 rw[<- hCs] at c1 c2 h9 ⊢
 rw[<- hKs] at k1 k2 h10 ⊢
 rw[<- hFs] at f1 f2 f3 h11
 rw[<- hXs] at x1 x2 x3 h12
 rw[<- hFR,<- hXR]
 have b1:(([]:List (List D)).length+Cs.length)*32<=140737488355328/\([]:List (List D)).length+Cs.length<=9223372036854775807:=by rw[List.length_nil];omega
 have b2:(([]:List (List D)).length+Ks.length)*8<=140737488355328/\([]:List (List D)).length+Ks.length<=9223372036854775807:=by rw[List.length_nil];omega
 refine F.bt_ref13_Clone.goO mixed rfl ?_
 repeat' first|refine st ?_|(with_reducible first|apply k_d|apply k_b)<;>intro _
 refine x_nilc 2 3 2 rfl rfl rfl ?_
 refine x_loop2 mixed Lt.bt_ref13_Clone_l0 Lk.bt_ref13_Clone_l0 (λ(i:Nat) (w:List (List D)×Bool)=>[.d (eI i)]) (λi w=>[.cells [.d (.str nm),.d dc,.d dk,.d df,.d dx],.cells [.d (.str []),.d .nil,.d .nil,.d .nil,.d .nil],.cells [.d (.str nm),.arr 3 Cs.length,.arr 4 Ks.length,.arr 5 w.1.length,.d .nil],.arr Cs 3 0 Cs.isEmpty,.arr Ks 1 0 Ks.isEmpty,.arr w.1 2 0 w.2]) (λi w=>i<=fs.length/\w.1=F0 (fs.take i)/\w.2=w.1.isEmpty) (λi w=>fs.length-i) 0 ([],true) rfl rfl rfl rfl (λ_ _ _=>⟨rfl,rfl⟩) rfl ⟨by omega,rfl,rfl⟩ ?_
 repeat' first|refine st ?_|(with_reducible first|apply k_d|apply k_b)<;>intro _
 intro i w ⟨g1,g2,g3⟩
 obtain⟨A,b⟩:=w
 dsimp only at g2 g3 ⊢
 have hAl:A.length=i:=by rw[g2,F0_len,List.length_take];omega
 have hAm:∀e∈A,e.length=2:=by rw[g2];exact F0_mem _
 cases hy:fs[i]? with
 |some f=>
  have hlt:=(List.getElem?_eq_some_iff.1 hy).1
  have hg:=f3 i f hy
  have hs:=F0_succ hy
  rw[<- g2] at hs
  have hfb:=(h6 f (List.mem_of_getElem? hy)).1
  have e1:=f.sld
  have e2:=eIs_len f.cs
  have e3:=eIs_mem f.cs
  unfold Fo.ds at hg
  obtain⟨fd,hfd⟩:∃z,z=f.d:=⟨_,rfl⟩
  obtain⟨E,hE⟩:∃z,z=eIs f.cs:=⟨_,rfl⟩
  obtain⟨tb,htb⟩:∃z,z=f.tb:=⟨_,rfl⟩
  rw[<- hfd] at hg e1
  rw[<- htb] at hg hs
  rw[<- hE] at e1 e2 e3 hs
  have b3:(([]:List (List D)).length+E.length)*8<=140737488355328/\([]:List (List D)).length+E.length<=9223372036854775807:=by rw[List.length_nil];omega
  clear g2
  repeat' first|refine st ?_|(with_reducible first|apply k_d|apply k_b)<;>intro _
  exact⟨i+1,(A++[[.sl E,.str tb]],false),rfl,rfl,by first|rfl|(simp[CnD];done),by omega,by omega,hs,by simp⟩
 |none=>
  have hge:=List.getElem?_eq_none_iff.1 hy
  rw[List.take_of_length_le hge,<- hFR] at g2
  subst g2
  subst g3
  repeat' first|refine st ?_|(with_reducible first|apply k_d|apply k_b)<;>intro _
  refine x_nilc 2 4 7 rfl rfl rfl ?_
  refine x_loop2 mixed Lt.bt_ref13_Clone_l1 Lk.bt_ref13_Clone_l1 (λ(i:Nat) (w:List (List D)×Bool)=>[.d (eI i)]) (λi w=>[.cells [.d (.str nm),.d dc,.d dk,.d df,.d dx],.cells [.d (.str []),.d .nil,.d .nil,.d .nil,.d .nil],.cells [.d (.str nm),.arr 3 Cs.length,.arr 4 Ks.length,.arr 5 A.length,.arr 6 w.1.length],.arr Cs 3 0 Cs.isEmpty,.arr Ks 1 0 Ks.isEmpty,.arr A 2 0 A.isEmpty,.arr w.1 7 0 w.2]) (λi w=>i<=xs.length/\w.1=Mt cpX xs i/\w.2=w.1.isEmpty) (λi w=>xs.length-i) 0 ([],true) rfl rfl rfl rfl (λ_ _ _=>⟨rfl,rfl⟩) rfl ⟨by omega,rfl,rfl⟩ ?_
  repeat' first|refine st ?_|(with_reducible first|apply k_d|apply k_b)<;>intro _
  intro q w ⟨g4,g5,g6⟩
  obtain⟨B,b⟩:=w
  dsimp only at g5 g6 ⊢
  have hBl:B.length=q:=by rw[g5];exact Mt_len _ xs q (by omega)
  have hBm:∀e∈B,e.length=7:=by rw[g5];exact Mt_mem _ _ _
  cases hx:xs[q]? with
  |some y=>
   have hlt:=(List.getElem?_eq_some_iff.1 hx).1
   have hs:=Mt_succ (φ:=cpX) hx
   have hS:=C.r11_Shift 0 y (h8 y (List.mem_of_getElem? hx))
   rw[shf0_cp y (hr y (List.mem_of_getElem? hx))] at hS
   rw[<- g5] at hs
   obtain⟨z,hz⟩:∃z,z=cpX y:=⟨_,rfl⟩
   rw[<- hz] at hs hS
   obtain⟨o1,n1,v1,m1,l1,a1⟩:=y
   obtain⟨o2,n2,v2,m2,l2,a2⟩:=z
   have hg:=x3 _ _ _ _ _ _ _ hx
   rw[Ex.ds_mk] at hs
   rw[Ex.av_mk,Ex.av_mk] at hS
   clear g5
   repeat' first|refine st ?_|((with_reducible first|apply k_pn|apply k_pc);(·exact hS))|(with_reducible first|apply k_d|apply k_b)<;>intro _
   exact⟨q+1,(B++[xds o2 n2 v2 m2 (ng l2 (xL a2))],false),rfl,rfl,rfl,by omega,by omega,hs,by simp⟩
  |none=>
   have hge:=List.getElem?_eq_none_iff.1 hx
   rw[Mt_end hge,<- hXR] at g5
   subst g5
   subst g6
   repeat' first|refine st ?_|(with_reducible first|apply k_d|apply k_b)<;>intro _
   all_goals exact⟨rfl,_,_,_,rfl⟩
def eD(l:List (List D)):D:=slD l.isEmpty l
theorem eD_sld(l:List (List D)):SlD (eD l) l:=sld_slD λe=>List.isEmpty_iff.1 e
def TD.cpR(x:TD):TD:=⟨⟨x.t.nm,x.t.cs,x.t.ks,x.t.fs.map nfF,x.t.xs.map cpX⟩,eD (eCs x.t.cs),eD (eIs x.t.ks),eD (F0 x.t.fs),eD (xL (x.t.xs.map cpX))⟩
theorem TD.cpR_ok{x:TD}(h:x.ok):x.cpR.ok:=by
 obtain⟨h,hr⟩:=h
 refine⟨⟨h.hn,h.hl,h.hls,h.hk,by show(x.t.fs.map nfF).length<=_;rw[List.length_map];exact h.hfl,λf hf=>?_,by show(x.t.xs.map cpX).length<=_;rw[List.length_map];exact h.hxs,λe he=>?_,eD_sld _,eD_sld _,eD_sld _,eD_sld _⟩,λe he=>?_⟩
 ·obtain⟨g,hg,rfl⟩:=List.mem_map.1 hf
  exact h.hfc g hg
 ·obtain⟨a,ha,rfl⟩:=List.mem_map.1 he
  exact Nat.le_trans (cp_bk a) (h.hxb a ha)
 ·obtain⟨a,ha,rfl⟩:=List.mem_map.1 he
  exact cp_rg a (hr a ha)
theorem nf_cpR(x:TD):nf x.cpR.t=nf x.t:=nf_nf x.t
theorem dg_tabA{os:List AO}{nm:List UInt8}{a b f x:Nat}{Cs K F X:List (List D)}{cn kn fn xn:Bool}{cz kz fz xz cf kf ff xf:Nat}
  (h1:os[a]?=some (.arr Cs cz cf cn)) (h2:os[b]?=some (.arr K kz kf kn)) (h3:os[f]?=some (.arr F fz ff fn)) (h4:os[x]?=some (.arr X xz xf xn)) :
  DG os (.agg [.d (.str nm),.arr a Cs.length,.arr b K.length,.arr f F.length,.arr x X.length]) (eT nm (slD cn Cs) (slD kn K) (slD fn F) (slD xn X)):=by
 refine .inr ⟨_,[.str nm,slD cn Cs,slD kn K,slD fn F,slD xn X],rfl,rfl,rfl,λj c y hc hy=>?_⟩
 match j,hc,hy with
 |0,hc,hy=>cases hc;cases hy;exact .inl (.inl rfl)
 |1,hc,hy=>cases hc;cases hy;exact .inl (.inr ⟨a,Cs,cz,cf,cn,rfl,h1,rfl⟩)
 |2,hc,hy=>cases hc;cases hy;exact .inl (.inr ⟨b,K,kz,kf,kn,rfl,h2,rfl⟩)
 |3,hc,hy=>cases hc;cases hy;exact .inl (.inr ⟨f,F,fz,ff,fn,rfl,h3,rfl⟩)
 |4,hc,hy=>cases hc;cases hy;exact .inl (.inr ⟨x,X,xz,xf,xn,rfl,h4,rfl⟩)
 |j+5,hc,hy=>simp at hc
theorem C.r13_Clone(x:TD)(h:x.ok):Pure Tryz.prog N.bt_ref13_Clone [x.av] x.cpR.av:=by
 refine CallSpec.deepP (C.r13_CloneO x h) ?_
 rintro r os ⟨rfl,a,b,c,rfl⟩
 exact .inl (dg_tabA rfl rfl rfl rfl)
end Go.Proofs
end
section
namespace Go.Proofs
open Go.Bi
def FD(i:Nat)(l:List Fo):List (List D):=F0 (l.map (blF i))
theorem FD_succ(i:Nat){l:List Fo}{j:Nat}{f:Fo}(h:l[j]?=some f):FD i (l.take j)++[[.sl (eIs (f.cs.map λc=>belowI c i)),.str f.tb]]=FD i (l.take (j+1)):=by
 have h1:=F0_succ (l:=l.map (blF i)) (i:=j) (f:=blF i f) (by rw[List.getElem?_map,h];rfl)
 rw[<- List.map_take,<- List.map_take] at h1
 exact h1
theorem FD_len(i:Nat)(l:List Fo):(FD i l).length=l.length:=by unfold FD;rw[F0_len,List.length_map]
theorem erase_app{α:Type}(l:List α)(i:Nat):l.take i++l.drop (i+1)=l.eraseIdx i:=(List.eraseIdx_eq_take_drop_succ ..).symm
def TD.wo(x:TD)(i:Nat):TD:=⟨⟨x.t.nm,x.t.cs.eraseIdx i,x.t.ks.map (λc=>belowI c i),(x.t.fs.map (blF i)).map nfF,x.t.xs.map (dnX i)⟩,eD (eCs (x.t.cs.eraseIdx i)),.sl (eIs (x.t.ks.map λc=>belowI c i)),eD (FD i x.t.fs),eD (xL (x.t.xs.map (dnX i)))⟩
theorem C.r14_withoutO(x:TD)(h:x.ok)(i:Nat)(hi:i<x.t.cs.length)(hkb:∀k∈x.t.ks,0<=k/\k<=1048576)(hfb:∀g∈x.t.fs,∀k∈g.cs,0<=k/\k<=1048576) :
  CallSpec Tryz.prog N.bt_ref14_without [x.av,.d (eI i)] [] (λr os=>∃T:List (List D),T=eCs (x.t.cs.eraseIdx i)/\r=.agg [.d (.str x.t.nm),.arr 3 T.length,.d (.sl (eIs (x.t.ks.map λc=>belowI c i))),.arr 4 (FD i x.t.fs).length,.arr 5 (xL (x.t.xs.map (dnX i))).length]/\
  ∃a b c fl,fl=T.isEmpty/\os=[a,b,c,.arr T 3 0 fl,.arr (FD i x.t.fs) 2 0 (FD i x.t.fs).isEmpty,.arr (xL (x.t.xs.map (dnX i))) 7 0 (xL (x.t.xs.map (dnX i))).isEmpty]):=by
 obtain⟨⟨nm,cs,ks,fs,xs⟩,dc,dk,df,dx⟩:=x
 obtain⟨⟨h1,h2,h3,h4,h5,h6,h7,h8,h9,h10,h11,h12⟩,hr⟩:=h
 dsimp only at h1 h2 h3 h4 h5 h6 h7 h8 h9 h10 h11 h12 hr hi hkb hfb ⊢
 have hT:(eCs cs).take i++(eCs cs).drop (i+1)=eCs (cs.eraseIdx i):=by rw[eCs_erase,erase_app]
 have hK:=C.r14_lower ks h4 hkb i dk h10
 have c1:=eCs_len cs
 have c2:=eCs_mem cs
 have f1:=eFs_len fs
 have f2:=eFs_mem fs
 have f3:=λi f=>@eFs_get fs i f
 have x1:=xL_len xs
 have x2:=xL_mem xs
 have x3:=xL_get'' (args:=xs)
 have hdc:dc=.sl (eCs cs):=by
  rcases h9 with ⟨_,h⟩|h
  ·rw[h] at c1;simp at c1;omega
  ·exact h
 obtain⟨T,hT0⟩:∃T,T=eCs (cs.eraseIdx i):=⟨_,rfl⟩
 rw[<- hT0] at hT
 obtain⟨Cs,hCs⟩:∃z,z=eCs cs:=⟨_,rfl⟩
 obtain⟨Fs,hFs⟩:∃z,z=eFs fs:=⟨_,rfl⟩
 obtain⟨Xs,hXs⟩:∃z,z=xL xs:=⟨_,rfl⟩
 obtain⟨FR,hFR⟩:∃z,z=FD i fs:=⟨_,rfl⟩
 obtain⟨XR,hXR⟩:∃z,z=xL (xs.map (dnX i)):=⟨_,rfl⟩
 obtain⟨KR,hKR⟩:∃z,z=eIs (ks.map λc=>belowI c i):=⟨_,rfl⟩
 rw[<- hCs] at c1 c2 hdc hT
 rw[<- hFs] at f1 f2 f3 h11
 rw[<- hXs] at x1 x2 x3 h12
 rw[<- hKR] at hK ⊢
 rw[<- hFR,<- hXR]
 subst hdc
 obtain⟨T1,hT1⟩:∃z,z=Cs.take i:=⟨_,rfl⟩
 obtain⟨T2,hT2⟩:∃z,z=Cs.drop (i+1):=⟨_,rfl⟩
 have t1:List.take ((i:Int).toNat-((0:Nat):Int).toNat) (List.drop ((0:Nat):Int).toNat Cs)=T1:=by rw[hT1];rfl
 have t2:List.take ((Cs.length:Int).toNat-((i:Int)+1).toNat) (List.drop ((i:Int)+1).toNat Cs)=T2:=by
  rw[hT2]
  exact List.take_of_length_le (by rw[List.length_drop];omega)
 have cm1:∀e∈T1,e.length=3:=λe he=>c2 e (List.mem_of_mem_take (hT1▸he))
 have cm2:∀e∈T2,e.length=3:=λe he=>c2 e (List.mem_of_mem_drop (hT2▸he))
 have l1:T1.length<=1048576:=by rw[hT1];exact Nat.le_trans (List.length_take_le ..) (by omega)
 have l2:T2.length<=1048576:=by rw[hT2,List.length_drop];omega
 rw[<- hT1,<- hT2] at hT
 have hfl:(bif T2.isEmpty then T1.isEmpty else false)=T.isEmpty:=by rw[<- hT];cases T1<;>cases T2<;>rfl
 have b1:(([]:List (List D)).length+T1.length)*32<=140737488355328/\([]:List (List D)).length+T1.length<=9223372036854775807:=by rw[List.length_nil];omega
 have b2:(T1.length+T2.length)*32<=140737488355328/\T1.length+T2.length<=9223372036854775807:=by omega
 refine F.bt_ref14_without.goO mixed rfl ?_
 repeat' first|refine st ?_|((with_reducible first|apply k_pn|apply k_pc);(·exact hK))|(with_reducible first|apply k_d|apply k_b)<;>intro _
 rw[t1]
 repeat' first|refine st ?_|(with_reducible first|apply k_d|apply k_b)<;>intro _
 rw[t2]
 repeat' first|refine st ?_|(with_reducible first|apply k_d|apply k_b)<;>intro _
 rw[hT]
 refine x_nilc 2 3 2 rfl rfl rfl ?_
 refine x_loop2 mixed Lt.bt_ref14_without_l0 Lk.bt_ref14_without_l0 (λ(j:Nat) (w:List (List D)×Bool)=>[.d (eI j)]) (λj w=>[.cells [.d (.str nm),.d (.sl Cs),.d dk,.d df,.d dx],.cells [.d (.str []),.d .nil,.d .nil,.d .nil,.d .nil],.cells [.d (.str nm),.arr 3 T.length,.d (.sl KR),.arr 4 w.1.length,.d .nil],.arr T 3 0 (bif T2.isEmpty then T1.isEmpty else false),.arr w.1 2 0 w.2]) (λj w=>j<=fs.length/\w.1=FD i (fs.take j)/\w.2=w.1.isEmpty) (λj w=>fs.length-j) 0 ([],true) rfl rfl rfl rfl (λ_ _ _=>⟨rfl,rfl⟩) rfl ⟨by omega,rfl,rfl⟩ ?_
 repeat' first|refine st ?_|(with_reducible first|apply k_d|apply k_b)<;>intro _
 intro j w ⟨g1,g2,g3⟩
 obtain⟨A,b⟩:=w
 dsimp only at g2 g3 ⊢
 have hAl:A.length=j:=by rw[g2,FD_len,List.length_take];omega
 have hAm:∀e∈A,e.length=2:=by rw[g2];exact F0_mem _
 cases hy:fs[j]? with
 |some f=>
  have hlt:=(List.getElem?_eq_some_iff.1 hy).1
  have hg:=f3 j f hy
  have hs:=FD_succ i hy
  rw[<- g2] at hs
  have hfm:=List.mem_of_getElem? hy
  have hL:=C.r14_lower f.cs (h6 f hfm).1 (hfb f hfm) i f.d f.sld
  unfold Fo.ds at hg
  obtain⟨fd,hfd⟩:∃z,z=f.d:=⟨_,rfl⟩
  obtain⟨E,hE⟩:∃z,z=eIs (f.cs.map λc=>belowI c i):=⟨_,rfl⟩
  obtain⟨tb,htb⟩:∃z,z=f.tb:=⟨_,rfl⟩
  rw[<- hfd] at hg hL
  rw[<- htb] at hg hs
  rw[<- hE] at hL hs
  clear g2
  repeat' first|refine st ?_|((with_reducible first|apply k_pn|apply k_pc);(·exact hL))|(with_reducible first|apply k_d|apply k_b)<;>intro _
  exact⟨j+1,(A++[[.sl E,.str tb]],false),rfl,rfl,by first|rfl|(simp[CnD];done),by omega,by omega,hs,by simp⟩
 |none=>
  have hge:=List.getElem?_eq_none_iff.1 hy
  rw[List.take_of_length_le hge,<- hFR] at g2
  subst g2
  subst g3
  repeat' first|refine st ?_|(with_reducible first|apply k_d|apply k_b)<;>intro _
  refine x_nilc 2 4 7 rfl rfl rfl ?_
  refine x_loop2 mixed Lt.bt_ref14_without_l1 Lk.bt_ref14_without_l1 (λ(j:Nat) (w:List (List D)×Bool)=>[.d (eI j)]) (λj w=>[.cells [.d (.str nm),.d (.sl Cs),.d dk,.d df,.d dx],.cells [.d (.str []),.d .nil,.d .nil,.d .nil,.d .nil],.cells [.d (.str nm),.arr 3 T.length,.d (.sl KR),.arr 4 A.length,.arr 5 w.1.length],.arr T 3 0 (bif T2.isEmpty then T1.isEmpty else false),.arr A 2 0 A.isEmpty,.arr w.1 7 0 w.2]) (λj w=>j<=xs.length/\w.1=Mt (dnX i) xs j/\w.2=w.1.isEmpty) (λj w=>xs.length-j) 0 ([],true) rfl rfl rfl rfl (λ_ _ _=>⟨rfl,rfl⟩) rfl ⟨by omega,rfl,rfl⟩ ?_
  repeat' first|refine st ?_|(with_reducible first|apply k_d|apply k_b)<;>intro _
  intro q w ⟨g4,g5,g6⟩
  obtain⟨B,b⟩:=w
  dsimp only at g5 g6 ⊢
  have hBl:B.length=q:=by rw[g5];exact Mt_len _ xs q (by omega)
  have hBm:∀e∈B,e.length=7:=by rw[g5];exact Mt_mem _ _ _
  cases hx:xs[q]? with
  |some y=>
   have hlt:=(List.getElem?_eq_some_iff.1 hx).1
   have hs:=Mt_succ (φ:=dnX i) hx
   have hS:=C.r14_moved i y (h8 y (List.mem_of_getElem? hx)) (hr y (List.mem_of_getElem? hx))
   rw[<- g5] at hs
   obtain⟨z,hz⟩:∃z,z=dnX i y:=⟨_,rfl⟩
   rw[<- hz] at hs hS
   obtain⟨o1,n1,v1,m1,l1,a1⟩:=y
   obtain⟨o2,n2,v2,m2,l2,a2⟩:=z
   have hg:=x3 _ _ _ _ _ _ _ hx
   rw[Ex.ds_mk] at hs
   rw[Ex.av_mk,Ex.av_mk] at hS
   clear g5
   repeat' first|refine st ?_|((with_reducible first|apply k_pn|apply k_pc);(·exact hS))|(with_reducible first|apply k_d|apply k_b)<;>intro _
   exact⟨q+1,(B++[xds o2 n2 v2 m2 (ng l2 (xL a2))],false),rfl,rfl,rfl,by omega,by omega,hs,by simp⟩
  |none=>
   have hge:=List.getElem?_eq_none_iff.1 hx
   rw[Mt_end hge,<- hXR] at g5
   subst g5
   subst g6
   repeat' first|refine st ?_|(with_reducible first|apply k_d|apply k_b)<;>intro _
   all_goals exact⟨T,hT0,rfl,_,_,_,_,hfl,rfl⟩
theorem dg_tabW{os:List AO}{nm:List UInt8}{a f x:Nat}{Cs F X:List (List D)}{k:D}{cn fn xn:Bool}{cz fz xz cf ff xf:Nat}
  (h1:os[a]?=some (.arr Cs cz cf cn)) (h3:os[f]?=some (.arr F fz ff fn)) (h4:os[x]?=some (.arr X xz xf xn)) :
  DG os (.agg [.d (.str nm),.arr a Cs.length,.d k,.arr f F.length,.arr x X.length]) (eT nm (slD cn Cs) k (slD fn F) (slD xn X)):=by
 refine .inr ⟨_,[.str nm,slD cn Cs,k,slD fn F,slD xn X],rfl,rfl,rfl,λj c y hc hy=>?_⟩
 match j,hc,hy with
 |0,hc,hy=>cases hc;cases hy;exact .inl (.inl rfl)
 |1,hc,hy=>cases hc;cases hy;exact .inl (.inr ⟨a,Cs,cz,cf,cn,rfl,h1,rfl⟩)
 |2,hc,hy=>cases hc;cases hy;exact .inl (.inl rfl)
 |3,hc,hy=>cases hc;cases hy;exact .inl (.inr ⟨f,F,fz,ff,fn,rfl,h3,rfl⟩)
 |4,hc,hy=>cases hc;cases hy;exact .inl (.inr ⟨x,X,xz,xf,xn,rfl,h4,rfl⟩)
 |j+5,hc,hy=>simp at hc
theorem C.r14_without(x:TD)(h:x.ok)(i:Nat)(hi:i<x.t.cs.length)(hkb:∀k∈x.t.ks,0<=k/\k<=1048576)(hfb:∀g∈x.t.fs,∀k∈g.cs,0<=k/\k<=1048576):Pure Tryz.prog N.bt_ref14_without [x.av,.d (eI i)] (x.wo i).av:=by
 refine CallSpec.deepP (C.r14_withoutO x h i hi hkb hfb) ?_
 rintro r os ⟨T,hT,rfl,a,b,c,fl,hfl,rfl⟩
 subst hT
 subst hfl
 exact .inl (dg_tabW rfl rfl rfl)
end Go.Proofs
end
section
namespace Go.Proofs
open Go.Bi
theorem r14_err(x:TD)(h:x.ok)(c:Ch)(hc:Cok c)(hq:evoE x.t c≠0):Pure Tryz.prog N.bt_ref14_Apply [x.av,c.av] (.tup [zTD.av,.d (eI (evoE x.t c))]):=by
 have hC:=C.r14_Check x.t x.dc x.dk x.df x.dx h.tok c hc
 obtain⟨q,hqq⟩:∃q,q=evoE x.t c:=⟨_,rfl⟩
 rw[<- hqq] at hC hq ⊢
 obtain⟨⟨nm,cs,ks,fs,xs⟩,dc,dk,df,dx⟩:=x
 obtain⟨k,cnm,to,⟨cn,ck,cl⟩,⟨vk,vn,vs⟩⟩:=c
 refine F.bt_ref14_Apply.go mixed rfl ?_
 repeat' first|refine st ?_|((with_reducible first|apply k_pn|apply k_pc);(·exact hC))|(with_reducible first|apply k_d|apply k_b)<;>intro _
 all_goals rfl
def TD.evoR(x:TD)(c:Ch):TD:=
 if c.k=2 then x.wo (findC c.nm x.t.cs).toNat
 else ⟨⟨x.t.nm,(evoT x.t c).cs,x.t.ks,x.t.fs.map nfF,x.t.xs.map cpX⟩,.sl (eCs (evoT x.t c).cs),eD (eIs x.t.ks),eD (F0 x.t.fs),eD (xL (x.t.xs.map cpX))⟩
theorem nf_evoR{x:TD}{c:Ch}(hk:1<=c.k/\c.k<=4):nf (x.evoR c).t=nf (evoT x.t c):=by
 have e1:(x.t.fs.map nfF).map nfF=x.t.fs.map nfF:=by rw[List.map_map];rfl
 have e3 (i:Nat):((x.t.fs.map (blF i)).map nfF).map nfF=(x.t.fs.map (blF i)).map nfF:=by rw[List.map_map,List.map_map,List.map_map];rfl
 unfold TD.evoR
 by_cases k2:c.k=2
 ·rw[if_pos k2]
  unfold evoT
  rw[if_neg (by omega),if_pos k2]
  unfold TD.wo nf
  dsimp only
  rw[e3]
 ·rw[if_neg k2]
  unfold evoT
  rw[if_neg k2]
  by_cases k1:c.k=1
  ·rw[if_pos k1];unfold nf;dsimp only;rw[e1]
  ·rw[if_neg k1]
   by_cases k3:c.k=3
   ·rw[if_pos k3];unfold nf;dsimp only;rw[e1]
   ·rw[if_neg k3];unfold nf;dsimp only;rw[e1]
theorem TD.evoR_ok{x:TD}(h:x.ok){c:Ch}(hc:Cok c)(hq:evoE x.t c=0):(x.evoR c).ok:=by
 obtain⟨q1,q2,_⟩:=evo_inv hq
 have h1:=TD.evo_ok h hc hq
 have h2:=TD.cpR_ok h
 unfold TD.evoR
 by_cases k2:c.k=2
 ·rw[if_pos k2]
  have e:evoT x.t c=⟨x.t.nm,x.t.cs.eraseIdx (findC c.nm x.t.cs).toNat,x.t.ks.map (λy=>belowI y (findC c.nm x.t.cs).toNat),x.t.fs.map (blF (findC c.nm x.t.cs).toNat),x.t.xs.map (dnX (findC c.nm x.t.cs).toNat)⟩:=by unfold evoT;rw[if_neg (by omega),if_pos k2]
  obtain⟨⟨a1,a2,a3,a4,a5,a6,a7,a8,a9,a10,a11,a12⟩,hr⟩:=h1
  have hr:(evoT x.t c).Rg:=hr
  have a2:(evoT x.t c).cs.length<=1048576:=a2
  have a3:∀c'∈(evoT x.t c).cs,c'.nm.length<=1048576:=a3
  have a4:(evoT x.t c).ks.length<=1048576:=a4
  have a5:(evoT x.t c).fs.length<=1048576:=a5
  have a6:∀f∈(evoT x.t c).fs,f.cs.length<=1048576/\f.tb.length<=1048576:=a6
  have a7:(evoT x.t c).xs.length<=1048576:=a7
  have a8:∀e∈(evoT x.t c).xs,e.bk<=1048576:=a8
  rw[e] at hr a2 a3 a4 a5 a6 a7 a8
  refine⟨⟨h.tok.hn,a2,a3,a4,?_,λf hf=>?_,a7,a8,eD_sld _,sld_sl,eD_sld _,eD_sld _⟩,hr⟩
  ·show((x.t.fs.map _).map nfF).length<=_
   rw[List.length_map];exact a5
  ·obtain⟨g,hg,rfl⟩:=List.mem_map.1 hf
   exact a6 g hg
 ·rw[if_neg k2]
  exact⟨⟨h.tok.hn,h1.tok.hl,h1.tok.hls,h.tok.hk,h2.tok.hfl,h2.tok.hfc,h2.tok.hxs,h2.tok.hxb,sld_sl,eD_sld _,eD_sld _,eD_sld _⟩,h2.rg⟩
theorem C.r14_Apply(x:TD)(h:x.ok)(c:Ch)(hc:Cok c)(hq:evoE x.t c=0):Pure Tryz.prog N.bt_ref14_Apply [x.av,c.av] (.tup [(x.evoR c).av,.d (eI 0)]):=by
 obtain⟨q1,q2,q3,q4,q5⟩:=evo_inv hq
 have hv:=tab_vd.1 q1
 have hC:=C.r14_Check x.t x.dc x.dk x.df x.dx h.tok c hc
 rw[hq] at hC
 have hF:=C.r13_Find x.t.nm x.t.cs h.tok.hl x.dc x.dk x.df x.dx h.tok.dc c.nm
 have hne:(eCs x.t.cs).isEmpty=false:=by
  have:=hv.l1
  cases hcs:x.t.cs with
  |nil=>rw[hcs] at this;simp at this
  |cons a l=>rfl
 have hl:=hv.l2
 have hcl:=eCs_len x.t.cs
 have hcm:=eCs_mem x.t.cs
 by_cases k2:c.k=2
 ·obtain⟨i,co,hi,hco,hcn,hus,_,_⟩:=chg_inv (q5 (by omega))
  have hil:=(List.getElem?_eq_some_iff.1 hco).1
  have hR:=C.r13_Clone x h
  have hW:=C.r14_without x h i hil (λk hk=>by have:=hv.ks k hk;omega) (λg hg k hk=>by have:=(hv.fs g hg).2.2.1 k hk;omega)
  have e:x.evoR c=x.wo i:=by unfold TD.evoR;rw[if_pos k2,hi];rfl
  rw[e]
  rw[hi] at hF
  obtain⟨y,hy⟩:∃y,y=x.wo i:=⟨_,rfl⟩
  obtain⟨z,hz⟩:∃y,y=x.cpR:=⟨_,rfl⟩
  rw[<- hy] at hW ⊢
  rw[<- hz] at hR
  clear hy hz hcl hcm hne
  obtain⟨⟨nm,cs,ks,fs,xs⟩,dc,dk,df,dx⟩:=x
  obtain⟨k,cnm,to,⟨cn,ck,cl⟩,⟨vk,vn,vs⟩⟩:=c
  dsimp only at k2
  subst k2
  have hR:Bi.Pure Tryz.prog N.bt_ref13_Clone [eT nm dc dk df dx] (eT z.t.nm z.dc z.dk z.df z.dx):=hR
  have hW:Bi.Pure Tryz.prog N.bt_ref14_without [eT nm dc dk df dx,.d (eI i)] (eT y.t.nm y.dc y.dk y.df y.dx):=hW
  have hF:Bi.Pure Tryz.prog N.bt_ref13_Find [eT nm dc dk df dx,.d (.str cnm)] (.d (eI i)):=hF
  refine F.bt_ref14_Apply.go mixed rfl ?_
  repeat' first|refine st ?_|((with_reducible first|apply k_pn|apply k_pc);(·first|exact hC|exact hR|exact hF|exact hW))|(with_reducible first|apply k_d|apply k_b)<;>intro _
  all_goals rfl
 ·have e:x.evoR c=⟨⟨x.t.nm,(evoT x.t c).cs,x.t.ks,x.t.fs.map nfF,x.t.xs.map cpX⟩,.sl (eCs (evoT x.t c).cs),eD (eIs x.t.ks),eD (F0 x.t.fs),eD (xL (x.t.xs.map cpX))⟩:=by unfold TD.evoR;rw[if_neg k2]
  rw[e]
  have hR:=C.r13_CloneO x h
  rw[hne] at hR
  by_cases k1:c.k=1
  ·have e2:(evoT x.t c).cs=x.t.cs++[c.co]:=by unfold evoT;rw[if_pos k1]
   have e3:eCs (x.t.cs++[c.co])=eCs x.t.cs++[c.co.ds]:=by simp[eCs]
   unfold TD.av
   dsimp only
   rw[e2,e3]
   obtain⟨f,hf⟩:∃f,f=findC c.nm x.t.cs:=⟨_,rfl⟩
   rw[<- hf] at hF
   generalize eCs x.t.cs=Cs at hR hcl hcm ⊢
   generalize eIs x.t.ks=Ks at hR ⊢
   generalize F0 x.t.fs=Fs at hR ⊢
   generalize xL (x.t.xs.map cpX)=Xs at hR ⊢
   obtain⟨⟨nm,cs,ks,fs,xs⟩,dc,dk,df,dx⟩:=x
   obtain⟨k,cnm,to,⟨cn,ck,cl⟩,⟨vk,vn,vs⟩⟩:=c
   dsimp only at k1 hF hcl hl
   subst k1
   refine CallSpec.deepP (Q:=λr os=>r=.tup [.agg [.d (.str nm),.arr 6 (Cs++[[.str cn,eI ck,.bool cl]]).length,.arr 7 Ks.length,.arr 8 Fs.length,.arr 9 Xs.length],.d (eI 0)]/\os[6]?=some (.arr (Cs++[[.str cn,eI ck,.bool cl]]) 3 0 false)/\os[7]?=some (.arr Ks 1 0 Ks.isEmpty)/\os[8]?=some (.arr Fs 2 0 Fs.isEmpty)/\os[9]?=some (.arr Xs 7 0 Xs.isEmpty)) ?_ ?_
   ·refine F.bt_ref14_Apply.goO2 mixed rfl ?_
    repeat' first|refine st ?_|((with_reducible apply k_nc);(· exact hR);(rintro _ _ ⟨rfl,a,b,c,rfl⟩))|((with_reducible first|apply k_pn|apply k_pc);(·first|exact hC|exact hF))|(with_reducible first|apply k_d|apply k_b)<;>intro _
    exact⟨rfl,rfl,rfl,rfl,rfl⟩
   ·rintro r os ⟨rfl,h1,h2,h3,h4⟩
    refine .inr ⟨_,[_,.d (eI 0)],rfl,rfl,rfl,λj c x hc hx=>?_⟩
    match j,hc,hx with
    |0,hc,hx=>cases hc;cases hx;exact dg_tabA h1 h2 h3 h4
    |1,hc,hx=>cases hc;cases hx;exact .inl ⟨eI 0,.inl (.inl rfl),rfl⟩
    |j+2,hc,hx=>simp at hc
  ·obtain⟨i,co,hi,hco,hcn,hus,_,_⟩:=chg_inv (q5 (by omega))
   have hil:=(List.getElem?_eq_some_iff.1 hco).1
   have hiN:(findC c.nm x.t.cs).toNat=i:=by omega
   have hgd:x.t.cs.getD i ⟨[],0,false⟩=co:=by rw[List.getD_eq_getElem?_getD,hco];rfl
   rw[hi] at hF
   have hg:(eCs x.t.cs)[((i:Nat):Int).toNat]?=some [.str co.nm,eI co.k,.bool co.nl]:=eCs_get hco
   have hg2:(eCs x.t.cs)[i]?=some [.str co.nm,eI co.k,.bool co.nl]:=eCs_get hco
   have hilt:i<(eCs x.t.cs).length:=by rw[hcl];exact hil
   have key:∃N:Co,(evoT x.t c).cs=x.t.cs.set i N/\((c.k=3/\N=⟨c.to,co.k,co.nl⟩)\/(c.k=4/\N=⟨co.nm,2,co.nl⟩)):=by
    by_cases k3:c.k=3
    ·exact⟨⟨c.to,co.k,co.nl⟩,by unfold evoT;rw[if_neg k1,if_neg k2,if_pos k3,hiN,hgd],.inl ⟨k3,rfl⟩⟩
    ·exact⟨⟨co.nm,2,co.nl⟩,by unfold evoT;rw[if_neg k1,if_neg k2,if_neg k3,hiN,hgd],.inr ⟨by omega,rfl⟩⟩
   obtain⟨N,e2,e4⟩:=key
   have e3:eCs (x.t.cs.set i N)=(eCs x.t.cs).set i N.ds:=by unfold eCs;rw[List.map_set]
   unfold TD.av
   dsimp only
   rw[e2,e3]
   generalize eCs x.t.cs=Cs at hR hcl hcm hg hg2 hilt ⊢
   generalize eIs x.t.ks=Ks at hR ⊢
   generalize F0 x.t.fs=Fs at hR ⊢
   generalize xL (x.t.xs.map cpX)=Xs at hR ⊢
   obtain⟨⟨nm,cs,ks,fs,xs⟩,dc,dk,df,dx⟩:=x
   obtain⟨k,cnm,to,⟨cn,ck,cl⟩,⟨vk,vn,vs⟩⟩:=c
   dsimp only at hF hcl hl e4
   refine CallSpec.deepP (Q:=λr os=>r=.tup [.agg [.d (.str nm),.arr 6 (Cs.set i N.ds).length,.arr 7 Ks.length,.arr 8 Fs.length,.arr 9 Xs.length],.d (eI 0)]/\os[6]?=some (.arr (Cs.set i N.ds) 3 0 false)/\os[7]?=some (.arr Ks 1 0 Ks.isEmpty)/\os[8]?=some (.arr Fs 2 0 Fs.isEmpty)/\os[9]?=some (.arr Xs 7 0 Xs.isEmpty)) ?_ ?_
   ·rw[List.length_set]
    rcases e4 with ⟨k3,rfl⟩|⟨k4,rfl⟩
    ·subst k3
     refine F.bt_ref14_Apply.goO2 mixed rfl ?_
     repeat' first|refine st ?_|((with_reducible apply k_nc);(· exact hR);(rintro _ _ ⟨rfl,a,b,c,rfl⟩))|((with_reducible first|apply k_pn|apply k_pc);(·first|exact hC|exact hF))|(with_reducible first|apply k_d|apply k_b)<;>intro _
     exact⟨rfl,rfl,rfl,rfl,rfl⟩
    ·subst k4
     refine F.bt_ref14_Apply.goO2 mixed rfl ?_
     repeat' first|refine st ?_|((with_reducible apply k_nc);(· exact hR);(rintro _ _ ⟨rfl,a,b,c,rfl⟩))|((with_reducible first|apply k_pn|apply k_pc);(·first|exact hC|exact hF))|(with_reducible first|apply k_d|apply k_b)<;>intro _
     exact⟨rfl,rfl,rfl,rfl,rfl⟩
   ·rintro r os ⟨rfl,h1,h2,h3,h4⟩
    refine .inr ⟨_,[_,.d (eI 0)],rfl,rfl,rfl,λj c x hc hx=>?_⟩
    match j,hc,hx with
    |0,hc,hx=>cases hc;cases hx;exact dg_tabA h1 h2 h3 h4
    |1,hc,hx=>cases hc;cases hx;exact .inl ⟨eI 0,.inl (.inl rfl),rfl⟩
    |j+2,hc,hx=>simp at hc
end Go.Proofs
end
section
namespace Go.Proofs
open Go.Bi
def TD.runR(x:TD)(i:Nat):List Ch->TD×Nat×Int
 |[]=>(x,i,0)
 |c::r=>if evoE x.t c=0 then TD.runR (x.evoR c) (i+1) r else (zTD,i,evoE x.t c)
def TD.runsR(x:TD)(l:List Ch):TD×Nat×Int:=if tabE x.t=0 then TD.runR x.cpR 0 l else (zTD,0,tabE x.t)
theorem runR_drop{x:TD}{l:List Ch}{i:Nat}{c:Ch}(h:l[i]?=some c):TD.runR x i (l.drop i)=if evoE x.t c=0 then TD.runR (x.evoR c) (i+1) (l.drop (i+1)) else (zTD,i,evoE x.t c):=by
 obtain⟨hlt,he⟩:=List.getElem?_eq_some_iff.1 h
 rw[List.drop_eq_getElem_cons hlt,he];rfl
theorem runR_nf:∀(l:List Ch)(x y:TD)(i:Nat),nf x.t=nf y.t->(TD.run x i l).2=(TD.runR y i l).2/\nf (TD.run x i l).1.t=nf (TD.runR y i l).1.t
 |[],x,y,i,h=>⟨rfl,h⟩
 |c::r,x,y,i,h=>by
  have h1:evoE x.t c=evoE y.t c:=by rw[<- evoE_nf,h,evoE_nf]
  by_cases hq:evoE x.t c=0
  ·have e1:TD.run x i (c::r)=TD.run (x.evo c) (i+1) r:=by rw[TD.run,if_pos hq]
   have e2:TD.runR y i (c::r)=TD.runR (y.evoR c) (i+1) r:=by rw[TD.runR,if_pos (by rw[<- h1];exact hq)]
   rw[e1,e2]
   refine runR_nf r (x.evo c) (y.evoR c) (i+1) ?_
   rw[nf_evoR (evo_inv hq).2.1,<- nf_evo y.t,<- h,nf_evo]
   rfl
  ·have e1:TD.run x i (c::r)=(zTD,i,evoE x.t c):=by rw[TD.run,if_neg hq]
   have e2:TD.runR y i (c::r)=(zTD,i,evoE y.t c):=by rw[TD.runR,if_neg (by rw[<- h1];exact hq)]
   rw[e1,e2,h1]
   exact⟨rfl,rfl⟩
theorem runsR_nf(x:TD)(l:List Ch):(x.runs l).2=(x.runsR l).2/\nf (x.runs l).1.t=nf (x.runsR l).1.t:=by
 unfold TD.runs TD.runsR
 by_cases hq:tabE x.t=0
 ·rw[if_pos hq,if_pos hq]
  exact runR_nf l x.cp x.cpR 0 (by rw[nf_cp,nf_cpR])
 ·rw[if_neg hq,if_neg hq]
  exact⟨rfl,rfl⟩
theorem runR_ok:∀(l:List Ch)(x:TD)(i:Nat),x.ok->(∀c∈l,Cok c)->(TD.runR x i l).1.ok
 |[],x,i,h,_=>h
 |c::r,x,i,h,hc=>by
  unfold TD.runR
  split
  ·rename_i hq
   exact runR_ok r _ _ (TD.evoR_ok h (hc c (by simp)) hq) λd hd=>hc d (by simp[hd])
  ·exact zTD_ok
theorem runsR_ok{x:TD}{l:List Ch}(h:x.ok)(hc:∀c∈l,Cok c):(x.runsR l).1.ok:=by
 unfold TD.runsR
 split
 ·exact runR_ok l _ _ (TD.cpR_ok h) hc
 ·exact zTD_ok
theorem C.r14_Run(x:TD)(h:x.ok)(l:List Ch)(hl:l.length<=1048576)(hls:∀c∈l,Cok c)(d:D)(hd:SlD d (eChs l)) :
  Pure Tryz.prog N.bt_ref14_Run [x.av,.d d] (.tup [(x.runsR l).1.av,.d (eI ((x.runsR l).2.1:Nat)),.d (eI (x.runsR l).2.2)]):=by
 have hT:=C.r13_Check x.t x.dc x.dk x.df x.dx h.tok
 obtain⟨R,hR⟩:∃R,R=x.runsR l:=⟨_,rfl⟩
 rw[<- hR]
 unfold TD.runsR at hR
 have h1:=eChs_len l
 have hm:=eChs_mem l
 have hg0:=λi c=>@eChs_get l i c
 obtain⟨es,hes⟩:∃es,es=eChs l:=⟨_,rfl⟩
 rw[<- hes] at h1 hm hd hg0
 by_cases hq:tabE x.t=0
 rotate_left
 ·rw[if_neg hq] at hR
  subst hR
  obtain⟨q,hqq⟩:∃q,q=tabE x.t:=⟨_,rfl⟩
  rw[<- hqq] at hT hq ⊢
  refine F.bt_ref14_Run.go mixed rfl ?_
  repeat' first|refine st ?_|((with_reducible apply go_i);conv=>whnf)|((with_reducible first|apply k_pn|apply k_pc);(·exact hT))|(with_reducible first|apply k_d|apply k_b)<;>intro _
  all_goals rfl
 ·rw[if_pos hq] at hR
  rw[hq] at hT
  have hC:=C.r13_Clone x h
  have hok:=TD.cpR_ok h
  obtain⟨y,hy⟩:∃y,y=x.cpR:=⟨_,rfl⟩
  rw[<- hy] at hC hR hok
  clear hy
  obtain⟨⟨nm,cs,ks,fs,xs⟩,dc,dk,df,dx⟩:=x
  have hC:Bi.Pure Tryz.prog N.bt_ref13_Clone [eT nm dc dk df dx] (eT y.t.nm y.dc y.dk y.df y.dx):=hC
  have hT:Bi.Pure Tryz.prog N.bt_ref13_Check [eT nm dc dk df dx] (.d (eI 0)):=hT
  refine F.bt_ref14_Run.go mixed rfl ?_
  repeat' first|refine st ?_|((with_reducible apply go_i);conv=>whnf)|((with_reducible first|apply k_pn|apply k_pc);(·first|exact hT|exact hC))|(with_reducible first|apply k_d|apply k_b)<;>intro _
  refine x_loop2 mixed Lt.bt_ref14_Run_l0 Lk.bt_ref14_Run_l0 (λ(i:Nat) (w:TD)=>[.d (eI i)]) (λi w=>[.cells [.d (.str nm),.d dc,.d dk,.d df,.d dx],.cells [.d (.str []),.d .nil,.d .nil,.d .nil,.d .nil],.cells [.d (.str w.t.nm),.d w.dc,.d w.dk,.d w.df,.d w.dx]]) (λi w=>i<=l.length/\w.ok/\R=TD.runR w i (l.drop i)) (λi w=>l.length-i) 0 y rfl rfl rfl rfl (λ_ _ _=>⟨rfl,rfl⟩) rfl ⟨by omega,hok,hR⟩ ?_
  repeat' first|refine st ?_|((with_reducible apply go_i);conv=>whnf)|(with_reducible first|apply k_d|apply k_b)<;>intro _
  intro i w ⟨h4,h5,h6⟩
  cases hx:l[i]? with
  |some c=>
   have hlt:=(List.getElem?_eq_some_iff.1 hx).1
   have hcok:=hls c (List.mem_of_getElem? hx)
   have hg:=hg0 i c hx
   rw[runR_drop hx] at h6
   by_cases he:evoE w.t c=0
   ·rw[if_pos he] at h6
    have hA:=C.r14_Apply w h5 c hcok he
    have hok2:=TD.evoR_ok h5 hcok he
    obtain⟨z,hz⟩:∃z,z=w.evoR c:=⟨_,rfl⟩
    rw[<- hz] at hA h6 hok2
    obtain⟨ck,cnm,to,⟨cn,cck,cl⟩,⟨vk,vn,vs⟩⟩:=c
    have hA:Bi.Pure Tryz.prog N.bt_ref14_Apply [eT w.t.nm w.dc w.dk w.df w.dx,chD ck cnm to cn cck cl vk vn vs] (.tup [eT z.t.nm z.dc z.dk z.df z.dx,.d (eI 0)]):=hA
    clear hR
    repeat' first|refine st ?_|((with_reducible apply go_i);conv=>whnf)|((with_reducible first|apply k_pn|apply k_pc);(·exact hA))|(with_reducible first|apply k_d|apply k_b)<;>intro _
    exact⟨i+1,z,rfl,rfl,rfl,by omega,by omega,hok2,h6⟩
   ·rw[if_neg he] at h6
    have hA:=r14_err w h5 c hcok he
    subst h6
    obtain⟨q,hqq⟩:∃q,q=evoE w.t c:=⟨_,rfl⟩
    rw[<- hqq] at hA he ⊢
    obtain⟨ck,cnm,to,⟨cn,cck,cl⟩,⟨vk,vn,vs⟩⟩:=c
    have hA:Bi.Pure Tryz.prog N.bt_ref14_Apply [eT w.t.nm w.dc w.dk w.df w.dx,chD ck cnm to cn cck cl vk vn vs] (.tup [eT [] .nil .nil .nil .nil,.d (eI q)]):=hA
    clear hR
    repeat' first|refine st ?_|((with_reducible apply go_i);conv=>whnf)|((with_reducible first|apply k_pn|apply k_pc);(·exact hA))|(with_reducible first|apply k_d|apply k_b)<;>intro _
    all_goals rfl
  |none=>
   have hge:=List.getElem?_eq_none_iff.1 hx
   rw[List.drop_of_length_le hge] at h6
   have hil:i=l.length:=by omega
   subst h6
   clear hR
   repeat' first|refine st ?_|((with_reducible apply go_i);conv=>whnf)|(with_reducible first|apply k_d|apply k_b)<;>intro _
   all_goals (first|rfl|(simp only[TD.runR,hil,h1];done)|(rw[h1,<- hil];rfl))
end Go.Proofs
end
section
namespace Go.Proofs
open Go.Bi
theorem stB_at:∀{l:List Ch}{x:TD},tabE x.t=0->stB x l=true->∀i,i<=l.length->tabE (chn x (l.take i)).t=0
 |[],x,h,_,i,hi=>by
  have:i=0:=by simpa using hi
  subst this;exact h
 |c::r,x,h,hb,0,hi=>h
 |c::r,x,h,hb,i+1,hi=>by
  rw[stB,Bool.and_eq_true] at hb
  have he:evoE x.t c=0:=of_decide_eq_true hb.1
  have h2:tabE (x.to c).t=0:=by unfold TD.to;rw[if_pos he];exact tab_vd.2 (evo_vd he)
  exact stB_at (l:=r) (x:=x.to c) h2 hb.2 i (by simpa using hi)
theorem stB_get:∀{l:List Ch}{x:TD}{i:Nat}{c:Ch},stB x l=true->l[i]?=some c->evoE (chn x (l.take i)).t c=0
 |[],x,i,c,_,h=>by simp at h
 |a::r,x,0,c,hb,h=>by
  rw[stB,Bool.and_eq_true] at hb
  simp at h;subst h
  exact of_decide_eq_true hb.1
 |a::r,x,i+1,c,hb,h=>by
  rw[stB,Bool.and_eq_true] at hb
  rw[List.getElem?_cons_succ] at h
  exact stB_get (l:=r) (x:=x.to a) (i:=i) hb.2 h
theorem C.mapping_Tables(x:TD)(h:x.ok)(l:List Ch)(hl:l.length<=1048576)(hls:∀c∈l,Cok c)(d:D)(hd:SlD d (eChs l)) :
  Pure Tryz.prog N.mapping_Tables [x.av,.d d] (.d (tabD x l)):=by
 have hS:=C.mapping_steps x h l hl hls d hd
 obtain⟨R,hR⟩:∃R,R=tabD x l:=⟨_,rfl⟩
 rw[<- hR]
 unfold tabD at hR
 cases hb:stE x l with
 |false=>
  rw[hb] at hS hR
  rw[if_neg (by decide)] at hS hR
  subst hR
  clear hb hd
  obtain⟨⟨nm,cs,ks,fs,xs⟩,dc,dk,df,dx⟩:=x
  refine F.mapping_Tables.go mixed rfl ?_
  repeat' first|refine st ?_|((with_reducible first|apply k_pn|apply k_pc);(·exact hS))|(with_reducible first|apply k_d|apply k_b)<;>intro _
  all_goals rfl
 |true=>
  rw[hb] at hS hR
  rw[if_pos rfl] at hS hR
  unfold stE at hb
  rw[Bool.and_eq_true] at hb
  have hq:tabE x.t=0:=of_decide_eq_true hb.1
  have hC:=C.clone_any x h (tab_vd.1 hq).fl
  obtain⟨S,hSS⟩:∃S,S=stL x l:=⟨_,rfl⟩
  have hSl:S.length=l.length:=by rw[hSS];exact stL_len l x
  have hSc:∀(i:Nat) s,S[i]?=some s->s.y.ok/\s.y.t.fs.length<=4:=λi s hs=>by
   have hi:=(List.getElem?_eq_some_iff.1 hs).1
   have hc:l[i]?=some (l[i]'(by omega)):=List.getElem?_eq_getElem (by omega)
   have h2:=stL_get (x:=x) hc
   rw[<- hSS,hs] at h2
   have h3:=Option.some.inj h2
   have e:s.y=chn x (l.take (i+1)):=by rw[h3,take_one hc,chn_snoc]
   rw[e]
   exact⟨chn_ok _ h λc hc=>hls c (List.mem_of_mem_take hc),(tab_vd.1 (stB_at hq hb.2 (i+1) (by omega))).fl⟩
  unfold tabL at hR
  rw[<- hSS] at hS hR
  have hg0:=λi s=>@eSt_get S i s
  have h1:=eSt_len S
  have hm:=eSt_mem S
  have hsd:SlD (slD (eSt S).isEmpty (eSt S)) (eSt S):=sld_slD λe=>List.isEmpty_iff.1 e
  obtain⟨sd,hsd0⟩:∃z,z=slD (eSt S).isEmpty (eSt S):=⟨_,rfl⟩
  rw[<- hsd0] at hS hsd
  obtain⟨Es,hEs⟩:∃z,z=eSt S:=⟨_,rfl⟩
  rw[<- hEs] at hg0 h1 hm hsd
  obtain⟨y,hy⟩:∃z,z=x.cp:=⟨_,rfl⟩
  rw[<- hy] at hC hR
  clear hd hb hq h hSS hsd0 hEs hy
  obtain⟨⟨nm,cs,ks,fs,xs⟩,dc,dk,df,dx⟩:=x
  have hC:Bi.Pure Tryz.prog N.schema_Clone [eT nm dc dk df dx] (eT y.t.nm y.dc y.dk y.df y.dx):=hC
  refine F.mapping_Tables.go mixed rfl ?_
  repeat' first|refine st ?_|((with_reducible first|apply k_pn|apply k_pc);(·first|exact hS|exact hC))|(with_reducible first|apply k_d|apply k_b)<;>intro _
  refine x_loop2 mixed Lt.mapping_Tables_l0 Lk.mapping_Tables_l0 (λ(i:Nat) (A:List (List D))=>[.arr 1 A.length,.d (eI i)]) (λi A=>[.cells [.d (.str nm),.d dc,.d dk,.d df,.d dx],.arr A 5 0 false]) (λi A=>i<=S.length/\A=eTs (y::(S.take i).map λs=>s.y.cp)) (λi A=>S.length-i) 0 [[.str y.t.nm,y.dc,y.dk,y.df,y.dx]] rfl rfl rfl rfl (λ_ _ _=>⟨rfl,rfl⟩) rfl ⟨by omega,rfl⟩ ?_
  repeat' first|refine st ?_|(with_reducible first|apply k_d|apply k_b)<;>intro _
  intro i A ⟨g1,g2⟩
  have hAl:A.length=i+1:=by rw[g2,eTs_len,List.length_cons,List.length_map,List.length_take];omega
  have hAm:∀e∈A,e.length=5:=by rw[g2];exact eTs_mem _
  cases hx:S[i]? with
  |some s=>
   have hlt:=(List.getElem?_eq_some_iff.1 hx).1
   have hg:=hg0 i s hx
   obtain⟨k1,k2⟩:=hSc i s hx
   have hC2:=C.clone_any s.y k1 k2
   have hs:A++[[.str s.y.cp.t.nm,s.y.cp.dc,s.y.cp.dk,s.y.cp.df,s.y.cp.dx]]=eTs (y::(S.take (i+1)).map λs=>s.y.cp):=by rw[g2,List.take_add_one,hx];simp[eTs]
   obtain⟨z,hz⟩:∃z,z=s.y.cp:=⟨_,rfl⟩
   rw[<- hz] at hC2 hs
   obtain⟨x1,y1,c1⟩:=s
   have hC2:Bi.Pure Tryz.prog N.schema_Clone [eT y1.t.nm y1.dc y1.dk y1.df y1.dx] (eT z.t.nm z.dc z.dk z.df z.dx):=hC2
   clear g2 hR
   unfold St.ds at hg
   dsimp only at hg
   repeat' first|refine st ?_|((with_reducible first|apply k_pn|apply k_pc);(·exact hC2))|(with_reducible first|apply k_d|apply k_b)<;>intro _
   exact⟨i+1,A++[[.str z.t.nm,z.dc,z.dk,z.df,z.dx]],rfl,rfl,rfl,by omega,by omega,hs⟩
  |none=>
   have hge:=List.getElem?_eq_none_iff.1 hx
   rw[List.take_of_length_le hge] at g2
   rw[<- g2] at hR
   subst hR
   clear g2
   repeat' first|refine st ?_|(with_reducible first|apply k_d|apply k_b)<;>intro _
   all_goals rfl
def preB(x:TD)(l:List Ch)(j:Nat):Bool:=(List.range j).all λi=>decide ((x.runsR (l.take i)).2.2=0)
theorem preB_succ(x:TD)(l:List Ch)(j:Nat):preB x l (j+1)=(preB x l j&&decide ((x.runsR (l.take j)).2.2=0)):=by
 unfold preB
 rw[List.range_succ,List.all_append]
 simp
def refL(x:TD)(l:List Ch)(j:Nat):List TD:=(List.range j).map λi=>(x.runsR (l.take i)).1
def refD(x:TD)(l:List Ch):D:=if preB x l (l.length+1) then .sl (eTs (refL x l (l.length+1))) else .nil
theorem preB_false{x:TD}{l:List Ch}{i j:Nat}(h:(x.runsR (l.take i)).2.2≠0)(hij:i<j):preB x l j=false:=by
 rw[Bool.eq_false_iff]
 intro hh
 have:=List.all_eq_true.1 hh i (List.mem_range.2 hij)
 exact h (of_decide_eq_true this)
theorem C.r15_Tables(x:TD)(h:x.ok)(l:List Ch)(hl:l.length<=1048576)(hls:∀c∈l,Cok c)(d:D)(hd:SlD d (eChs l)) :
  Pure Tryz.prog N.bt_ref15_Tables [x.av,.d d] (.d (refD x l)):=by
 have hRun:=λ(i:Nat) d' hd'=>C.r14_Run x h (l.take i) (by rw[List.length_take];omega) (λc hc=>hls c (List.mem_of_mem_take hc)) d' hd'
 obtain⟨R,hR⟩:∃R,R=refD x l:=⟨_,rfl⟩
 rw[<- hR]
 unfold refD at hR
 have h1:=eChs_len l
 have hm:=eChs_mem l
 have htk:=λi=>eChs_take l i
 obtain⟨es,hes⟩:∃es,es=eChs l:=⟨_,rfl⟩
 rw[<- hes] at h1 hm hd
 have htk:∀i,eChs (l.take i)=es.take i:=λi=>by rw[hes];exact(htk i).symm
 obtain⟨rn,hrn⟩:∃z,z=λi=>x.runsR (l.take i):=⟨_,rfl⟩
 have hp:∀j,preB x l (j+1)=(preB x l j&&decide ((rn j).2.2=0)):=λj=>by rw[preB_succ,hrn]
 have hpf:∀i j,(rn i).2.2≠0->i<j->preB x l j=false:=λi j h1 h2=>preB_false (by rw[hrn] at h1;exact h1) h2
 have hrl:∀j,refL x l (j+1)=refL x l j++[(rn j).1]:=λj=>by unfold refL;rw[List.range_succ,List.map_append,hrn];rfl
 have hr0:refL x l 0=[]:=rfl
 have hRun:∀(i:Nat) d',SlD d' (es.take i)->Bi.Pure Tryz.prog N.bt_ref14_Run [x.av,.d d'] (.tup [(rn i).1.av,.d (eI ((rn i).2.1:Nat)),.d (eI (rn i).2.2)]):=λi d' hd'=>by
  rw[hrn];exact hRun i d' (by rw[htk];exact hd')
 obtain⟨rl,hrl0⟩:∃z,z=refL x l:=⟨_,rfl⟩
 rw[<- hrl0] at hR hrl hr0
 obtain⟨pb,hpb⟩:∃z,z=preB x l:=⟨_,rfl⟩
 rw[<- hpb] at hR hp hpf
 have hp0:pb 0=true:=by rw[hpb];rfl
 clear hrn hrl0 hpb h
 have hbd:∀A:List (List D),A.length<=l.length+1->(A.length+1)*112<=140737488355328:=λA h=>by omega
 refine F.bt_ref15_Tables.go mixed rfl ?_
 obtain⟨⟨nm,cs,ks,fs,xs⟩,dc,dk,df,dx⟩:=x
 repeat' first|refine st ?_|(with_reducible first|apply k_d|apply k_b)<;>intro _
 refine x_loop2 mixed Lt.bt_ref15_Tables_l0 Lk.bt_ref15_Tables_l0 (λ(i:Nat) (A:List (List D))=>[.arr 1 A.length,.d (eI i)]) (λi A=>[.cells [.d (.str nm),.d dc,.d dk,.d df,.d dx],.arr A 5 0 false]) (λi A=>i<=l.length+1/\A=eTs (rl i)/\pb i=true/\A.length=i) (λi A=>l.length+1-i) 0 [] rfl rfl rfl rfl (λ_ _ _=>⟨rfl,rfl⟩) rfl ⟨by omega,by rw[hr0];rfl,hp0,rfl⟩ ?_
 repeat' first|refine st ?_|(with_reducible first|apply k_d|apply k_b)<;>intro _
 intro i A ⟨g1,g2,g3,g4⟩
 have hAm:∀e∈A,e.length=5:=by rw[g2];exact eTs_mem _
 by_cases hi:i<=l.length
 ·have key:∀d',SlD d' (es.take i)->Bi.Pure Tryz.prog N.bt_ref14_Run [eT nm dc dk df dx,.d d'] (.tup [eT (rn i).1.t.nm (rn i).1.dc (rn i).1.dk (rn i).1.df (rn i).1.dx,.d (eI ((rn i).2.1:Nat)),.d (eI (rn i).2.2)]):=hRun i
  have hs:A++[[.str (rn i).1.t.nm,(rn i).1.dc,(rn i).1.dk,(rn i).1.df,(rn i).1.dx]]=eTs (rl (i+1)):=by rw[g2,hrl];simp[eTs]
  have hp1:=hp i
  have hpf1:=hpf i
  rw[g3,Bool.true_and] at hp1
  obtain⟨⟨y,n,e⟩,hy⟩:∃z,z=rn i:=⟨_,rfl⟩
  rw[<- hy] at key hs hp1 hpf1
  dsimp only at key hs hp1 hpf1
  clear g2 hRun hy
  have hes2:(es.length:Int)=l.length:=by omega
  rcases hd with ⟨rfl,he⟩|rfl
  ·have hi0:i=0:=by rw[he] at h1;simp at h1;omega
   subst hi0
   have key:=key .nil (by rw[he];exact sld_nil)
   by_cases g5:e=0
   ·subst g5
    repeat' first|refine st ?_|((with_reducible first|apply k_pn|apply k_pc);(·exact key))|(with_reducible first|apply k_d|apply k_b)<;>intro _
    exact⟨0+1,A++[[.str y.t.nm,y.dc,y.dk,y.df,y.dx]],rfl,rfl,rfl,by omega,by omega,hs,hp1,by simp[g4]⟩
   ·rw[hpf1 _ g5 (by omega:0<l.length+1),if_neg (by decide)] at hR
    subst hR
    repeat' first|refine st ?_|((with_reducible first|apply k_pn|apply k_pc);(·exact key))|(with_reducible first|apply k_d|apply k_b)<;>intro _
    all_goals rfl
  ·have key:=key (.sl ((es.drop (0:Int).toNat).take ((i:Int).toNat-(0:Int).toNat))) sld_sl
   by_cases g5:e=0
   ·subst g5
    repeat' first|refine st ?_|((with_reducible first|apply k_pn|apply k_pc);(·exact key))|(with_reducible first|apply k_d|apply k_b)<;>intro _
    exact⟨i+1,A++[[.str y.t.nm,y.dc,y.dk,y.df,y.dx]],rfl,rfl,rfl,by omega,by omega,hs,hp1,by simp[g4]⟩
   ·rw[hpf1 _ g5 (by omega:i<l.length+1),if_neg (by decide)] at hR
    subst hR
    repeat' first|refine st ?_|((with_reducible first|apply k_pn|apply k_pc);(·exact key))|(with_reducible first|apply k_d|apply k_b)<;>intro _
    all_goals rfl
 ·have hie:i=l.length+1:=by omega
  subst hie
  rw[g3,if_pos rfl,<- g2] at hR
  subst hR
  clear g2 hRun hp hpf hrl
  repeat' first|refine st ?_|(with_reducible first|apply k_d|apply k_b)<;>intro _
  all_goals rfl
end Go.Proofs
end
section
namespace Go.Proofs
open Go.Bi
theorem C.mapping_walk(f1 f2:FuncId)(S:List St)(hSl:S.length<=1048576)(d:D)(hd:SlD d (eSt S))(a b:Nat)(ha:a<=S.length)(hb:b<=S.length)(z:Nat->D)
  (hF:∀(i:Nat) s,a<=i->i<b->S[i]?=some s->CallSpec Tryz.prog f1 [s.av,.ptr 0 0] [.cells [.d (z i)]] (λr os=>r=.tup []/\os=[.cells [.d (z (i+1))]]))
  (hB:∀(i:Nat) s,b<=i->i<a->S[i]?=some s->CallSpec Tryz.prog f2 [s.av,.ptr 0 0] [.cells [.d (z (i+1))]] (λr os=>r=.tup []/\os=[.cells [.d (z i)]])) :
  CallSpec Tryz.prog N.mapping_walk [.d d,.d (eI a),.d (eI b),.clo f1 [0],.clo f2 [0]] [.cells [.d (z a)]] (λr os=>r=.tup []/\os=[.cells [.d (z b)]]):=by
 have hg0:=λi s=>@eSt_get S i s
 have h1:=eSt_len S
 have hm:=eSt_mem S
 obtain⟨Es,hEs⟩:∃q,q=eSt S:=⟨_,rfl⟩
 rw[<- hEs] at hd hg0 h1 hm
 refine F.mapping_walk.goX mixed rfl ?_
 repeat' first|refine st ?_|(with_reducible first|apply k_d|apply k_b)<;>intro _
 refine x_loop1 mixed Lt.mapping_walk_l0 Lk.mapping_walk_l0 (λ(p:Nat)=>[.d (eI p)]) (λp=>[.cells [.d (z p)]]) (λp=>a<=p/\(p<=b\/p=a)) (λp=>b-p) a rfl rfl rfl rfl (λ_ _=>⟨rfl,rfl⟩) rfl ⟨Nat.le_refl _,.inr rfl⟩ ?_
 repeat' first|refine st ?_|(with_reducible first|apply k_d|apply k_b)<;>intro _
 intro p ⟨g1,g2⟩
 by_cases hp:p<b
 ·obtain⟨s,hs⟩:∃s,S[p]?=some s:=⟨_,List.getElem?_eq_getElem (by omega)⟩
  have hg:=hg0 p s hs
  have hC:=hF p s g1 hp hs
  obtain⟨x,y,c⟩:=s
  unfold St.ds at hg
  dsimp only at hg
  have hC:CallSpec Tryz.prog f1 [.agg [.d (.str x.t.nm),.d x.dc,.d x.dk,.d x.df,.d x.dx,.d (.str y.t.nm),.d y.dc,.d y.dk,.d y.df,.d y.dx,.d (eI c.k),.d (.str c.nm),.d (.str c.to),.d (.str c.co.nm),.d (eI c.co.k),.d (.bool c.co.nl),.d (eI c.df.k),.d (eI c.df.n),.d (.str c.df.s)],.ptr 0 0] [.cells [.d (z p)]] (λr os=>r=.tup []/\os=[.cells [.d (z (p+1))]]):=hC
  repeat' first|refine st ?_|((with_reducible first|apply k_nc|apply k_cs);(·exact hC);(try rintro _ _ ⟨rfl,rfl⟩))|((with_reducible apply k_pr);(·exact hC))|((with_reducible apply k_cal);refine st ?_;(with_reducible apply k_chk);(·exact rfl);refine st ?_;(with_reducible apply k_cs);(·exact hC);(try rintro _ _ ⟨rfl,rfl⟩))|(with_reducible first|apply k_d|apply k_b)<;>intro _
  exact⟨p+1,rfl,rfl,rfl,by omega,by omega,.inl (by omega)⟩
 ·repeat' first|refine st ?_|(with_reducible first|apply k_d|apply k_b)<;>intro _
  refine x_loop1 mixed Lt.mapping_walk_l1 Lk.mapping_walk_l1 (λ(q:Nat)=>[.d (eI q)]) (λq=>[.cells [.d (z q)]]) (λq=>b<=q/\(q<=a\/q=b)) (λq=>q) p rfl rfl rfl rfl (λ_ _=>⟨rfl,rfl⟩) rfl ⟨by omega,by omega⟩ ?_
  repeat' first|refine st ?_|(with_reducible first|apply k_d|apply k_b)<;>intro _
  intro q ⟨g3,g4⟩
  by_cases hq:b<q
  ·obtain⟨k,rfl⟩:∃k,q=k+1:=⟨q-1,by omega⟩
   obtain⟨s,hs⟩:∃s,S[k]?=some s:=⟨_,List.getElem?_eq_getElem (by omega)⟩
   have hg:Es[((((k+1:Nat):Int))-1).toNat]?=some s.ds:=by rw[show((((k+1:Nat):Int))-1).toNat=k by omega];exact hg0 k s hs
   have hC:=hB k s (by omega) (by omega) hs
   obtain⟨x,y,c⟩:=s
   unfold St.ds at hg
   dsimp only at hg
   have hC:CallSpec Tryz.prog f2 [.agg [.d (.str x.t.nm),.d x.dc,.d x.dk,.d x.df,.d x.dx,.d (.str y.t.nm),.d y.dc,.d y.dk,.d y.df,.d y.dx,.d (eI c.k),.d (.str c.nm),.d (.str c.to),.d (.str c.co.nm),.d (eI c.co.k),.d (.bool c.co.nl),.d (eI c.df.k),.d (eI c.df.n),.d (.str c.df.s)],.ptr 0 0] [.cells [.d (z (k+1))]] (λr os=>r=.tup []/\os=[.cells [.d (z k)]]):=hC
   repeat' first|refine st ?_|((with_reducible first|apply k_nc|apply k_cs);(·exact hC);(try rintro _ _ ⟨rfl,rfl⟩))|((with_reducible apply k_pr);(·exact hC))|((with_reducible apply k_cal);refine st ?_;(with_reducible apply k_chk);(·exact rfl);refine st ?_;(with_reducible apply k_cs);(·exact hC);(try rintro _ _ ⟨rfl,rfl⟩))|(with_reducible first|apply k_d|apply k_b)<;>intro _
   refine⟨k,?_,rfl,rfl,by omega,by omega,.inl (by omega)⟩
   rw[show((k+1:Nat):Int)-1=k by omega]
  ·have hqb:q=b:=by omega
   subst hqb
   repeat' first|refine st ?_|(with_reducible first|apply k_d|apply k_b)<;>intro _
   all_goals exact⟨rfl,rfl⟩
theorem C.Col_c1(s:St)(h:s.x.ok)(hc:Cok s.c)(k:Int):CallSpec Tryz.prog N.mapping_Column_c1 [s.av,.ptr 0 0] [.cells [.d (eI k)]] (λr os=>r=.tup []/\os=[.cells [.d (eI (idxE s.x.t s.c k))]]):=by
 have hI:=C.evolve_Index s.x.t s.x.dc s.x.dk s.x.df s.x.dx h.tok s.c hc k
 obtain⟨q,hq⟩:∃q,q=idxE s.x.t s.c k:=⟨_,rfl⟩
 rw[<- hq] at hI ⊢
 clear hq h
 obtain⟨⟨⟨nm,cs,ks,fs,xs⟩,dc,dk,df,dx⟩,y,⟨ck,cnm,to,⟨cn,cck,cl⟩,⟨vk,vn,vs⟩⟩⟩:=s
 refine F.mapping_Column_c1.goX mixed rfl ?_
 repeat' first|refine st ?_|((with_reducible first|apply k_pn|apply k_pc);(·exact hI))|(with_reducible first|apply k_d|apply k_b)<;>intro _
 all_goals exact⟨rfl,rfl⟩
def bkT(t:Tb)(c:Ch)(k:Int):Int:=if c.k=1/\k=(t.cs.length:Int) then -1 else if c.k=2/\findC c.nm t.cs<=k then k+1 else k
def bkI(s:St)(k:Int):Int:=bkT s.x.t s.c k
theorem bkI_pl(s:St)(k:Int):bkI s k=if s.c.k=1/\k=plI s.x.t s.c then -1 else if s.c.k=2/\plI s.x.t s.c<=k then k+1 else k:=by
 unfold bkI bkT plI
 by_cases h1:s.c.k=1
 ·simp only[h1,if_pos,true_and]
  split
  ·rfl
  ·rw[if_neg (by omega),if_neg (by omega)]
 ·simp only[h1,false_and,if_false]
theorem C.Col_c2(s:St)(h:s.x.ok)(k:Int)(hk:k<=4611686018427387904)(hk0:-4611686018427387904<=k):CallSpec Tryz.prog N.mapping_Column_c2 [s.av,.ptr 0 0] [.cells [.d (eI k)]] (λr os=>r=.tup []/\os=[.cells [.d (eI (bkI s k))]]):=by
 have hP:=C.mapping_place s h
 obtain⟨q,hq⟩:∃q,q=bkI s k:=⟨_,rfl⟩
 rw[<- hq]
 rw[bkI_pl] at hq
 obtain⟨p,hp⟩:∃q,q=plI s.x.t s.c:=⟨_,rfl⟩
 rw[<- hp] at hP hq
 clear hp h
 obtain⟨⟨⟨nm,cs,ks,fs,xs⟩,dc,dk,df,dx⟩,y,⟨ck,cnm,to,⟨cn,cck,cl⟩,⟨vk,vn,vs⟩⟩⟩:=s
 dsimp only at hq
 refine F.mapping_Column_c2.goX mixed rfl ?_
 by_cases h1:ck=1
 ·subst h1
  by_cases h2:k=p
  ·rw[if_pos ⟨rfl,h2⟩] at hq
   subst hq
   repeat' first|refine st ?_|((with_reducible first|apply k_pn|apply k_pc);(·exact hP))|(with_reducible first|apply k_d|apply k_b)<;>intro _
   all_goals exact⟨rfl,rfl⟩
  ·rw[if_neg (λe=>h2 e.2),if_neg (by omega)] at hq
   subst hq
   repeat' first|refine st ?_|((with_reducible first|apply k_pn|apply k_pc);(·exact hP))|(with_reducible first|apply k_d|apply k_b)<;>intro _
   all_goals exact⟨rfl,rfl⟩
 ·rw[if_neg (λe=>h1 e.1)] at hq
  by_cases h2:ck=2
  ·subst h2
   by_cases h3:p<=k
   ·rw[if_pos ⟨rfl,h3⟩] at hq
    subst hq
    repeat' first|refine st ?_|((with_reducible first|apply k_pn|apply k_pc);(·exact hP))|(with_reducible first|apply k_d|apply k_b)<;>intro _
    all_goals exact⟨rfl,rfl⟩
   ·rw[if_neg (λe=>h3 e.2)] at hq
    subst hq
    repeat' first|refine st ?_|((with_reducible first|apply k_pn|apply k_pc);(·exact hP))|(with_reducible first|apply k_d|apply k_b)<;>intro _
    all_goals exact⟨rfl,rfl⟩
  ·rw[if_neg (λe=>h2 e.1)] at hq
   subst hq
   repeat' first|refine st ?_|((with_reducible first|apply k_pn|apply k_pc);(·exact hP))|(with_reducible first|apply k_d|apply k_b)<;>intro _
   all_goals exact⟨rfl,rfl⟩
def fwI(S:List St)(k:Int):Int:=S.foldl (λk s=>idxE s.x.t s.c k) k
def bwI(S:List St)(k:Int):Int:=S.foldr (λs k=>bkI s k) k
theorem fwI_snoc(S:List St)(a p:Nat)(s:St)(k:Int)(hap:a<=p)(h:S[p]?=some s):fwI ((S.drop a).take (p+1-a)) k=idxE s.x.t s.c (fwI ((S.drop a).take (p-a)) k):=by
 have e:(S.drop a)[p-a]?=some s:=by rw[List.getElem?_drop,show a+(p-a)=p by omega];exact h
 unfold fwI
 rw[show p+1-a=(p-a)+1 by omega,List.take_add_one,e,List.foldl_append]
 rfl
theorem bwI_cons(S:List St)(a p:Nat)(s:St)(k:Int)(hpa:p<a)(h:S[p]?=some s):bwI ((S.drop p).take (a-p)) k=bkI s (bwI ((S.drop (p+1)).take (a-(p+1))) k):=by
 obtain⟨hlt,he⟩:=List.getElem?_eq_some_iff.1 h
 rw[List.drop_eq_getElem_cons hlt,he,show a-p=(a-(p+1))+1 by omega,List.take_succ_cons]
 rfl
theorem idxE_bd(t:Tb)(c:Ch)(k:Int)(h0:-1<=k):-1<=idxE t c k/\idxE t c k<=max k 0:=by
 unfold idxE
 split
 ·omega
 ·split
  ·omega
  ·split
   ·omega
   ·rename_i h1 h2 h3
    unfold belowI
    split<;>omega
theorem fwI_bd:∀(S:List St)(k:Int),-1<=k->-1<=fwI S k/\fwI S k<=max k 0
 |[],k,h=>by unfold fwI;simp only[List.foldl_nil];omega
 |s::r,k,h=>by
  have h1:=idxE_bd s.x.t s.c k h
  have h2:=fwI_bd r (idxE s.x.t s.c k) h1.1
  unfold fwI at h2 ⊢
  rw[List.foldl_cons]
  omega
theorem bwI_bd:∀(S:List St)(k:Int),-1<=k->-1<=bwI S k/\bwI S k<=k+S.length
 |[],k,h=>by unfold bwI;simp only[List.foldr_nil,List.length_nil];omega
 |s::r,k,h=>by
  have h2:=bwI_bd r k h
  have h3:∀w,-1<=w->w<=k+r.length->-1<=bkI s w/\bkI s w<=k+(r.length+1:Nat):=by
   intro w w1 w2
   unfold bkI bkT
   split
   ·omega
   ·split<;>omega
  exact h3 _ h2.1 h2.2
def colM(x:TD)(l:List Ch)(a b k:Int):Int:=
 if stE x l=false\/a<0\/b<0\/(l.length:Int)<a\/(l.length:Int)<b\/k<0\/((chn x (l.take a.toNat)).t.cs.length:Int)<=k then -1
 else if a<=b then fwI (((stL x l).drop a.toNat).take (b.toNat-a.toNat)) k else bwI (((stL x l).drop b.toNat).take (a.toNat-b.toNat)) k
end Go.Proofs
end
section
namespace Go.Proofs
open Go.Bi
theorem liftW{f1 f2:FuncId}{d x y u v:D}(h:CallSpec Tryz.prog N.mapping_walk [.d d,.d x,.d y,.clo f1 [0],.clo f2 [0]] [.cells [.d u]] (λr os=>r=.tup []/\os=[.cells [.d v]])){os:List AO}{id:Nat}(ho:os[id]?=some (.cells [.d u])) :
  CallSpec Tryz.prog N.mapping_walk [.d d,.d x,.d y,.clo f1 [id],.clo f2 [id]] os (λr os'=>r=.tup []/\os'=os.set id (.cells [.d v])):=by
 have:=CallSpec.frame (K:=λr' os'=>r'=.tup []/\os'=os.set id (.cells [.d v])) h [id] os rfl (by simp) (λi o hx=>?_) (λz hz=>?_) (λo hx=>?_) ?_
 ·exact this
 ·cases i with
  |zero=>simp at hx;subst hx;exact ho
  |succ i=>simp at hx
 ·simp only[List.mem_cons,List.not_mem_nil,or_false] at hz
  rcases hz with rfl|rfl|rfl|rfl|rfl<;>simp[AV.bnd2,AV.bnd1]
 ·cases List.mem_singleton.1 hx
  simp[AO.bnd,AV.bnd1]
 ·rintro _ _ ⟨rfl,rfl⟩
  refine⟨rfl,?_⟩
  simp[putA,mO,mC]
theorem tabL_get(x:TD)(l:List Ch)(a:Nat)(ha:a<=l.length):(tabL x l)[a]?=some (chn x (l.take a)).cp:=by
 unfold tabL
 cases a with
 |zero=>rfl
 |succ i=>
  have hc:l[i]?=some (l[i]'(by omega)):=List.getElem?_eq_getElem (by omega)
  rw[List.getElem?_cons_succ,List.getElem?_map,stL_get (x:=x) hc,take_one hc,chn_snoc]
  rfl
theorem C.mapping_Column(x:TD)(h:x.ok)(l:List Ch)(hl:l.length<=1048576)(hls:∀c∈l,Cok c)(d:D)(hd:SlD d (eChs l))(a b k:Int) :
  Pure Tryz.prog N.mapping_Column [x.av,.d d,.d (eI a),.d (eI b),.d (eI k)] (.d (eI (colM x l a b k))):=by
 have hS:=C.mapping_steps x h l hl hls d hd
 have hT:=C.mapping_Tables x h l hl hls d hd
 have h1:=eChs_len l
 obtain⟨q,hq⟩:∃q,q=colM x l a b k:=⟨_,rfl⟩
 rw[<- hq]
 unfold colM at hq
 unfold tabD at hT
 obtain⟨es,hes⟩:∃es,es=eChs l:=⟨_,rfl⟩
 rw[<- hes] at h1 hd
 cases hb:stE x l with
 |false=>
  rw[hb] at hS hT hq
  rw[if_neg (by decide)] at hS hT
  rw[if_pos (.inl rfl)] at hq
  subst hq
  clear hb hd h
  obtain⟨⟨nm,cs,ks,fs,xs⟩,dc,dk,df,dx⟩:=x
  refine F.mapping_Column.go mixed rfl ?_
  repeat' first|refine st ?_|((with_reducible first|apply k_pn|apply k_pc);(·exact hS))|(with_reducible first|apply k_d|apply k_b)<;>intro _
  all_goals rfl
 |true=>
  rw[hb] at hS hT hq
  rw[if_pos rfl] at hS hT
  have hbs:tabE x.t=0/\stB x l=true:=by
   unfold stE at hb
   rw[Bool.and_eq_true] at hb
   exact⟨of_decide_eq_true hb.1,hb.2⟩
  simp only[Bool.true_eq_false,false_or] at hq
  by_cases g1:a<0
  ·rw[if_pos (.inl g1)] at hq
   subst hq
   clear hb hd h
   obtain⟨⟨nm,cs,ks,fs,xs⟩,dc,dk,df,dx⟩:=x
   refine F.mapping_Column.go mixed rfl ?_
   repeat' first|refine st ?_|((with_reducible first|apply k_pn|apply k_pc);(·exact hS))|(with_reducible first|apply k_d|apply k_b)<;>intro _
   all_goals rfl
  by_cases g2:b<0
  ·rw[if_pos (.inr (.inl g2))] at hq
   subst hq
   clear hb hd h
   obtain⟨⟨nm,cs,ks,fs,xs⟩,dc,dk,df,dx⟩:=x
   refine F.mapping_Column.go mixed rfl ?_
   repeat' first|refine st ?_|((with_reducible first|apply k_pn|apply k_pc);(·exact hS))|(with_reducible first|apply k_d|apply k_b)<;>intro _
   all_goals rfl
  by_cases g3:(l.length:Int)<a
  ·rw[if_pos (.inr (.inr (.inl g3)))] at hq
   subst hq
   have g3':(es.length:Int)<a:=by omega
   clear hb h
   obtain⟨⟨nm,cs,ks,fs,xs⟩,dc,dk,df,dx⟩:=x
   refine F.mapping_Column.go mixed rfl ?_
   repeat' first|refine st ?_|((with_reducible first|apply k_pn|apply k_pc);(·exact hS))|(with_reducible first|apply k_d|apply k_b)<;>intro _
   all_goals rfl
  by_cases g4:(l.length:Int)<b
  ·rw[if_pos (.inr (.inr (.inr (.inl g4))))] at hq
   subst hq
   have g4':(es.length:Int)<b:=by omega
   clear hb h
   obtain⟨⟨nm,cs,ks,fs,xs⟩,dc,dk,df,dx⟩:=x
   refine F.mapping_Column.go mixed rfl ?_
   repeat' first|refine st ?_|((with_reducible first|apply k_pn|apply k_pc);(·exact hS))|(with_reducible first|apply k_d|apply k_b)<;>intro _
   all_goals rfl
  by_cases g5:k<0
  ·rw[if_pos (.inr (.inr (.inr (.inr (.inl g5)))))] at hq
   subst hq
   clear hb h
   obtain⟨⟨nm,cs,ks,fs,xs⟩,dc,dk,df,dx⟩:=x
   refine F.mapping_Column.go mixed rfl ?_
   repeat' first|refine st ?_|((with_reducible first|apply k_pn|apply k_pc);(·exact hS))|(with_reducible first|apply k_d|apply k_b)<;>intro _
   all_goals rfl
  obtain⟨a,rfl⟩:∃n:Nat,a=n:=⟨a.toNat,by omega⟩
  obtain⟨b,rfl⟩:∃n:Nat,b=n:=⟨b.toNat,by omega⟩
  have ga:a<=l.length:=by omega
  have gb:b<=l.length:=by omega
  rw[Int.toNat_natCast,Int.toNat_natCast] at hq
  have hv:=eTs_get (tabL_get x l a ga)
  have hvok:=TD.cp_ok (chn_ok (l.take a) h λc hc=>hls c (List.mem_of_mem_take hc))
  have hvl:(chn x (l.take a)).cp.t.cs.length=(chn x (l.take a)).t.cs.length:=rfl
  have hvd:=hvok.tok.dc
  have hvn:=eCs_len (chn x (l.take a)).cp.t.cs
  have hvb:=hvok.tok.hl
  rw[<- hvl] at hq
  have hTl:=eTs_len (tabL x l)
  have hTm:=eTs_mem (tabL x l)
  have hTl2:(tabL x l).length=l.length+1:=by unfold tabL;rw[List.length_cons,List.length_map,stL_len]
  obtain⟨v,hvv⟩:∃v,v=(chn x (l.take a)).cp:=⟨_,rfl⟩
  rw[<- hvv] at hv hvd hvn hq hvb
  obtain⟨Ts,hTs⟩:∃z,z=eTs (tabL x l):=⟨_,rfl⟩
  rw[<- hTs] at hT hv hTl hTm
  have hv2:Ts[((a:Nat):Int).toNat]?=_:=hv
  have ht1:(a:Int)<Ts.length:=by omega
  by_cases g6:(v.t.cs.length:Int)<=k
  ·rw[if_pos (.inr (.inr (.inr (.inr (.inr g6)))))] at hq
   subst hq
   obtain⟨Cv,hCv⟩:∃z,z=eCs v.t.cs:=⟨_,rfl⟩
   rw[<- hCv] at hvd hvn
   clear hb h hbs
   obtain⟨⟨nm,cs,ks,fs,xs⟩,dc,dk,df,dx⟩:=x
   refine F.mapping_Column.go mixed rfl ?_
   repeat' first|refine st ?_|((with_reducible first|apply k_pn|apply k_pc);(·first|exact hS|exact hT))|(with_reducible first|apply k_d|apply k_b)<;>intro _
   all_goals rfl
  ·rw[if_neg (by omega)] at hq
   have hSl:=stL_len l x
   obtain⟨S,hSS⟩:∃S,S=stL x l:=⟨_,rfl⟩
   rw[<- hSS] at hS hSl hq
   have hSg:∀(i:Nat) s,S[i]?=some s->s.x.ok/\Cok s.c:=λi s hs=>by
    have hi:=(List.getElem?_eq_some_iff.1 hs).1
    have hc:l[i]?=some (l[i]'(by omega)):=List.getElem?_eq_getElem (by omega)
    have h2:=stL_get (x:=x) hc
    rw[<- hSS,hs] at h2
    rw[Option.some.inj h2]
    exact⟨chn_ok _ h λc hc=>hls c (List.mem_of_mem_take hc),hls _ (List.getElem_mem _)⟩
   have hsd:SlD (slD (eSt S).isEmpty (eSt S)) (eSt S):=sld_slD λe=>List.isEmpty_iff.1 e
   obtain⟨sd,hsd0⟩:∃z,z=slD (eSt S).isEmpty (eSt S):=⟨_,rfl⟩
   rw[<- hsd0] at hS hsd
   obtain⟨z,hz⟩:∃z:Nat->D,z=λp=>if a<=p then eI (fwI ((S.drop a).take (p-a)) k) else eI (bwI ((S.drop p).take (a-p)) k):=⟨_,rfl⟩
   have hza:z a=eI k:=by rw[hz];simp[fwI]
   have hzf:∀p,a<=p->z p=eI (fwI ((S.drop a).take (p-a)) k):=λp hp=>by rw[hz];simp[hp]
   have hzb:∀p,p<=a->z p=eI (bwI ((S.drop p).take (a-p)) k):=λp hp=>by
    rw[hz]
    by_cases e:p=a
    ·subst e;simp[fwI,bwI]
    ·simp[show ¬a<=p by omega]
   have hW:=C.mapping_walk N.mapping_Column_c1 N.mapping_Column_c2 S (by omega) sd hsd a b (by omega) (by omega) z (λi s h1 h2 h3=>by
     rw[hzf i h1,hzf (i+1) (by omega),fwI_snoc S a i s k h1 h3]
     exact C.Col_c1 s (hSg i s h3).1 (hSg i s h3).2 _) (λi s h1 h2 h3=>by
     rw[hzb i (by omega),hzb (i+1) (by omega),bwI_cons S a i s k h2 h3]
     have hb1:=bwI_bd ((S.drop (i+1)).take (a-(i+1))) k (by omega)
     have hb2:((S.drop (i+1)).take (a-(i+1))).length<=1048576:=Nat.le_trans (List.length_take_le ..) (by omega)
     exact C.Col_c2 s (hSg i s h3).1 _ (by omega) (by omega))
   have hzr:z b=eI q:=by
    rw[hq]
    by_cases hab:(a:Int)<=b
    ·rw[if_pos hab,hzf b (by omega)]
    ·rw[if_neg hab,hzb b (by omega)]
   rw[hza,hzr] at hW
   have hL:=fun {os:List AO} (ho:os[1]?=some (.cells [.d (eI k)]))=>liftW (id:=1) hW ho
   have g6':k<(eCs v.t.cs).length:=by omega
   obtain⟨Cv,hCv⟩:∃z,z=eCs v.t.cs:=⟨_,rfl⟩
   rw[<- hCv] at hvd hvn g6'
   clear hb h hbs hW hzf hzb hz hza hzr hq hSS hsd0
   obtain⟨⟨nm,cs,ks,fs,xs⟩,dc,dk,df,dx⟩:=x
   refine F.mapping_Column.go mixed rfl ?_
   repeat' first|refine st ?_|((with_reducible first|apply k_pn|apply k_pc);(·first|exact hS|exact hT))|((with_reducible first|apply k_nc|apply k_cs);(·exact hL rfl);(try rintro _ _ ⟨rfl,rfl⟩))|((with_reducible apply k_pr);(·exact hL rfl))|((with_reducible apply k_cal);refine st ?_;(with_reducible apply k_chk);(·exact rfl);refine st ?_;(with_reducible apply k_cs);(·exact hL rfl);(try rintro _ _ ⟨rfl,rfl⟩))|(with_reducible first|apply k_d|apply k_b)<;>intro _
   all_goals rfl
end Go.Proofs
end
