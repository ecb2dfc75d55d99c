/- Texts of this claim, joined. No condition. -/
import Derived.Test.YtlkkaepbnnakpaaGreatDoorQ9
import Derived.Test.YtlkkaepbnnakpaaGreatDoorIc0
import Derived.Test.YtlkkaepbnnakpaaGreatDoorIc1
set_option linter.unusedSimpArgs false
set_option linter.unusedVariables false
set_option maxRecDepth 10000
set_option maxHeartbeats 4000000
section
namespace Go.Proofs
open Go.Bi
theorem evoE_same{t u:Tb}(h:nf t=nf u)(c:Ch):evoE t c=evoE u c:=by rw[<- evoE_nf,h,evoE_nf]
theorem to_nf{x y:TD}(h:nf x.t=nf y.t)(c:Ch):nf (x.to c).t=nf (y.to c).t:=by
 unfold TD.to
 rw[evoE_same h c]
 split
 ·show nf (evoT x.t c)=nf (evoT y.t c)
  rw[<- nf_evo,h,nf_evo]
 ·rfl
theorem chn_nf:∀(l:List Ch){x y:TD},nf x.t=nf y.t->stB x l=stB y l/\nf (chn x l).t=nf (chn y l).t
 |[],x,y,h=>⟨rfl,h⟩
 |c::r,x,y,h=>by
  have h1:=chn_nf r (to_nf h c)
  exact⟨by rw[stB,stB,evoE_same h c,h1.1],h1.2⟩
theorem run_chn:∀(l:List Ch)(x:TD)(i:Nat),((TD.run x i l).2.2=0↔stB x l=true)/\(stB x l=true->(TD.run x i l).1=chn x l)
 |[],x,i=>⟨by simp[TD.run,stB],λ_=>rfl⟩
 |c::r,x,i=>by
  by_cases hq:evoE x.t c=0
  ·have e1:TD.run x i (c::r)=TD.run (x.evo c) (i+1) r:=by rw[TD.run,if_pos hq]
   have e2:x.to c=x.evo c:=by unfold TD.to;rw[if_pos hq]
   rw[e1,stB,decide_eq_true hq,Bool.true_and,e2,chn,e2]
   exact run_chn r _ _
  ·have e1:TD.run x i (c::r)=(zTD,i,evoE x.t c):=by rw[TD.run,if_neg hq]
   rw[e1,stB,decide_eq_false hq,Bool.false_and]
   exact⟨⟨λh=>absurd h hq,λh=>by cases h⟩,λh=>by cases h⟩
theorem runsR_iff(x:TD)(l:List Ch):(x.runsR l).2.2=0↔stE x l=true:=by
 have h1:=(runsR_nf x l).1
 rw[<- h1]
 unfold TD.runs stE
 by_cases hq:tabE x.t=0
 ·rw[if_pos hq,decide_eq_true hq,Bool.true_and,(run_chn l x.cp 0).1,(chn_nf l (nf_cp x)).1]
 ·rw[if_neg hq,decide_eq_false hq,Bool.false_and]
  exact⟨λh=>absurd h hq,λh=>by cases h⟩
theorem runsR_chn(x:TD)(l:List Ch)(h:stE x l=true):nf (x.runsR l).1.t=nf (chn x l).t:=by
 rw[<- (runsR_nf x l).2]
 unfold stE at h
 rw[Bool.and_eq_true] at h
 have hq:tabE x.t=0:=of_decide_eq_true h.1
 have h2:=chn_nf l (nf_cp x)
 unfold TD.runs
 rw[if_pos hq,(run_chn l x.cp 0).2 (by rw[h2.1];exact h.2),h2.2]
theorem stB_take:∀(l:List Ch)(x:TD)(i:Nat),stB x l=true->stB x (l.take i)=true
 |[],x,i,h=>by simpa using h
 |c::r,x,0,h=>rfl
 |c::r,x,i+1,h=>by
  rw[stB,Bool.and_eq_true] at h
  rw[List.take_succ_cons,stB,h.1,stB_take r _ i h.2];rfl
theorem stE_take{x:TD}{l:List Ch}(i:Nat)(h:stE x l=true):stE x (l.take i)=true:=by
 unfold stE at *
 rw[Bool.and_eq_true] at h
 rw[h.1,stB_take l x i h.2];rfl
theorem preB_st(x:TD)(l:List Ch):preB x l (l.length+1)=stE x l:=by
 cases h:stE x l with
 |true=>
  unfold preB
  rw[List.all_eq_true]
  intro i _
  exact decide_eq_true ((runsR_iff x _).2 (stE_take i h))
 |false=>
  refine preB_false (i:=l.length) (λe=>?_) (Nat.lt_succ_self _)
  rw[List.take_length,runsR_iff,h] at e
  cases e
theorem refL_get(x:TD)(l:List Ch)(j i:Nat)(h:i<j):(refL x l j)[i]?=some (x.runsR (l.take i)).1:=by
 unfold refL
 rw[List.getElem?_map,List.getElem?_range h]
 rfl
theorem idxE_nf{t u:Tb}(h:nf t=nf u)(c:Ch)(k:Int):idxE t c k=idxE u c k:=by
 have e:t.cs=u.cs:=by unfold nf at h;injection h
 unfold idxE
 rw[evoE_same h c,e]
theorem bkT_nf{t u:Tb}(h:nf t=nf u)(c:Ch)(k:Int):bkT t c k=bkT u c k:=by
 have e:t.cs=u.cs:=by unfold nf at h;injection h
 unfold bkT
 rw[e]
theorem fwI_neg:∀(S:List St),fwI S (-1)=-1
 |[]=>rfl
 |s::r=>by
  have h:idxE s.x.t s.c (-1)=-1:=by unfold idxE;rw[if_pos (.inr (.inl (by decide)))]
  unfold fwI
  rw[List.foldl_cons,h]
  exact fwI_neg r
theorem bwI_neg:∀(S:List St),(∀s∈S,bkI s (-1)=-1)->bwI S (-1)=-1
 |[],_=>rfl
 |s::r,h=>by
  have h1:=bwI_neg r λy hy=>h y (by simp[hy])
  unfold bwI at h1 ⊢
  rw[List.foldr_cons,h1]
  exact h s (by simp)
theorem bkT_neg{t:Tb}{c:Ch}(h:evoE t c=0):bkT t c (-1)=-1:=by
 obtain⟨q1,q2,q3,q4,q5⟩:=evo_inv h
 unfold bkT
 rw[if_neg (by omega)]
 by_cases k2:c.k=2
 ·obtain⟨i,co,hi,_⟩:=chg_inv (q5 (by omega))
  rw[if_neg (by omega)]
 ·rw[if_neg (λe=>k2 e.1)]
theorem C.r15_back(y:TD)(h:y.ok)(c:Ch)(k:Int)(hk:k<=4611686018427387904)(hk0:-4611686018427387904<=k):Pure Tryz.prog N.bt_ref15_back [y.av,c.av,.d (eI k)] (.d (eI (bkT y.t c k))):=by
 have hF:=C.r13_Find y.t.nm y.t.cs h.tok.hl y.dc y.dk y.df y.dx h.tok.dc c.nm
 have hdc:=h.tok.dc
 have hcl:=eCs_len y.t.cs
 have hl:=h.tok.hl
 obtain⟨q,hq⟩:∃q,q=bkT y.t c k:=⟨_,rfl⟩
 rw[<- hq]
 unfold bkT at hq
 obtain⟨f,hf⟩:∃f,f=findC c.nm y.t.cs:=⟨_,rfl⟩
 rw[<- hf] at hF hq
 obtain⟨Cs,hCs⟩:∃z,z=eCs y.t.cs:=⟨_,rfl⟩
 rw[<- hCs] at hdc hcl
 rw[<- hcl] at hq
 have hl':Cs.length<=1048576:=by omega
 clear hf hCs h
 obtain⟨⟨nm,cs,ks,fs,xs⟩,dc,dk,df,dx⟩:=y
 obtain⟨ck,cnm,to,⟨cn,cck,cl⟩,⟨vk,vn,vs⟩⟩:=c
 dsimp only at hq hF hdc
 clear hcl hl
 refine F.bt_ref15_back.go mixed rfl ?_
 by_cases h1:ck=1
 ·subst h1
  by_cases h2:k=Cs.length
  ·rw[if_pos ⟨rfl,h2⟩] at hq
   subst hq
   repeat' first|refine st ?_|(with_reducible first|apply k_d|apply k_b)<;>intro _
   all_goals rfl
  ·rw[if_neg (λe=>h2 e.2),if_neg (by omega)] at hq
   subst hq
   repeat' first|refine st ?_|(with_reducible first|apply k_d|apply k_b)<;>intro _
   all_goals rfl
 ·rw[if_neg (λe=>h1 e.1)] at hq
  by_cases h2:ck=2
  ·subst h2
   by_cases h3:f<=k
   ·rw[if_pos ⟨rfl,h3⟩] at hq
    subst hq
    repeat' first|refine st ?_|((with_reducible first|apply k_pn|apply k_pc);(·exact hF))|(with_reducible first|apply k_d|apply k_b)<;>intro _
    all_goals rfl
   ·rw[if_neg (λe=>h3 e.2)] at hq
    subst hq
    repeat' first|refine st ?_|((with_reducible first|apply k_pn|apply k_pc);(·exact hF))|(with_reducible first|apply k_d|apply k_b)<;>intro _
    all_goals rfl
  ·rw[if_neg (λe=>h2 e.1)] at hq
   subst hq
   repeat' first|refine st ?_|(with_reducible first|apply k_d|apply k_b)<;>intro _
   all_goals rfl
theorem C.r15_Column(x:TD)(h:x.ok)(l:List Ch)(hl:l.length<=1048576)(hls:∀c∈l,Cok c)(d:D)(hd:SlD d (eChs l))(a b k:Int) :
  Pure Tryz.prog N.bt_ref15_Column [x.av,.d d,.d (eI a),.d (eI b),.d (eI k)] (.d (eI (colM x l a b k))):=by
 have hT:=C.r15_Tables x h l hl hls d hd
 have h1:=eChs_len l
 have hm:=eChs_mem l
 have hgc:=λi c=>@eChs_get l i c
 obtain⟨q,hq⟩:∃q,q=colM x l a b k:=⟨_,rfl⟩
 rw[<- hq]
 unfold colM at hq
 unfold refD at hT
 rw[preB_st] at hT
 obtain⟨es,hes⟩:∃es,es=eChs l:=⟨_,rfl⟩
 rw[<- hes] at h1 hd hgc hm
 cases hb:stE x l with
 |false=>
  rw[hb] at hT hq
  rw[if_neg (by decide)] at hT
  rw[if_pos (.inl rfl)] at hq
  subst hq
  have g0:a<0\/0<=a:=by omega
  clear hb hd h
  obtain⟨⟨nm,cs,ks,fs,xs⟩,dc,dk,df,dx⟩:=x
  refine F.bt_ref15_Column.go mixed rfl ?_
  rcases g0 with g0|g0
  ·repeat' first|refine st ?_|((with_reducible first|apply k_pn|apply k_pc);(·exact hT))|(with_reducible first|apply k_d|apply k_b)<;>intro _
   all_goals rfl
  ·repeat' first|refine st ?_|((with_reducible first|apply k_pn|apply k_pc);(·exact hT))|(with_reducible first|apply k_d|apply k_b)<;>intro _
   all_goals rfl
 |true=>
  rw[hb] at hT hq
  rw[if_pos rfl] at hT
  have hbs:tabE x.t=0/\stB x l=true:=by
   unfold stE at hb
   rw[Bool.and_eq_true] at hb
   exact⟨of_decide_eq_true hb.1,hb.2⟩
  simp only[Bool.true_eq_false,false_or] at hq
  have hTl:=eTs_len (refL x l (l.length+1))
  have hTm:=eTs_mem (refL x l (l.length+1))
  have hTl2:(refL x l (l.length+1)).length=l.length+1:=by unfold refL;rw[List.length_map,List.length_range]
  rw[hTl2] at hTl
  have hTg:∀i,i<=l.length->∃y:TD,(eTs (refL x l (l.length+1)))[i]?=some [.str y.t.nm,y.dc,y.dk,y.df,y.dx]/\y.ok/\nf y.t=nf (chn x (l.take i)).t:=λi hi=>
   ⟨_,eTs_get (refL_get x l _ i (by omega)),runsR_ok h λc hc=>hls c (List.mem_of_mem_take hc),runsR_chn x _ (stE_take i hb)⟩
  obtain⟨Ts,hTs⟩:∃z,z=eTs (refL x l (l.length+1)):=⟨_,rfl⟩
  rw[<- hTs] at hT hTl hTg hTm
  by_cases g1:a<0
  ·rw[if_pos (.inl g1)] at hq
   subst hq
   clear hb hd h
   obtain⟨⟨nm,cs,ks,fs,xs⟩,dc,dk,df,dx⟩:=x
   refine F.bt_ref15_Column.go mixed rfl ?_
   repeat' first|refine st ?_|((with_reducible first|apply k_pn|apply k_pc);(·exact hT))|(with_reducible first|apply k_d|apply k_b)<;>intro _
   all_goals rfl
  by_cases g2:b<0
  ·rw[if_pos (.inr (.inl g2))] at hq
   subst hq
   clear hb hd h
   obtain⟨⟨nm,cs,ks,fs,xs⟩,dc,dk,df,dx⟩:=x
   refine F.bt_ref15_Column.go mixed rfl ?_
   repeat' first|refine st ?_|((with_reducible first|apply k_pn|apply k_pc);(·exact hT))|(with_reducible first|apply k_d|apply k_b)<;>intro _
   all_goals rfl
  by_cases g3:(l.length:Int)<a
  ·rw[if_pos (.inr (.inr (.inl g3)))] at hq
   subst hq
   have g3':(Ts.length:Int)<=a:=by omega
   clear hb h
   obtain⟨⟨nm,cs,ks,fs,xs⟩,dc,dk,df,dx⟩:=x
   refine F.bt_ref15_Column.go mixed rfl ?_
   repeat' first|refine st ?_|((with_reducible first|apply k_pn|apply k_pc);(·exact hT))|(with_reducible first|apply k_d|apply k_b)<;>intro _
   all_goals rfl
  by_cases g4:(l.length:Int)<b
  ·rw[if_pos (.inr (.inr (.inr (.inl g4))))] at hq
   subst hq
   have g4':(Ts.length:Int)<=b:=by omega
   have g3':a<(Ts.length:Int):=by omega
   clear hb h
   obtain⟨⟨nm,cs,ks,fs,xs⟩,dc,dk,df,dx⟩:=x
   refine F.bt_ref15_Column.go mixed rfl ?_
   repeat' first|refine st ?_|((with_reducible first|apply k_pn|apply k_pc);(·exact hT))|(with_reducible first|apply k_d|apply k_b)<;>intro _
   all_goals rfl
  have g3':a<(Ts.length:Int):=by omega
  have g4':b<(Ts.length:Int):=by omega
  by_cases g5:k<0
  ·rw[if_pos (.inr (.inr (.inr (.inr (.inl g5)))))] at hq
   subst hq
   clear hb h
   obtain⟨⟨nm,cs,ks,fs,xs⟩,dc,dk,df,dx⟩:=x
   refine F.bt_ref15_Column.go mixed rfl ?_
   repeat' first|refine st ?_|((with_reducible first|apply k_pn|apply k_pc);(·exact hT))|(with_reducible first|apply k_d|apply k_b)<;>intro _
   all_goals rfl
  obtain⟨a,rfl⟩:∃n:Nat,a=n:=⟨a.toNat,by omega⟩
  obtain⟨b,rfl⟩:∃n:Nat,b=n:=⟨b.toNat,by omega⟩
  have ga:a<=l.length:=by omega
  have gb:b<=l.length:=by omega
  rw[Int.toNat_natCast,Int.toNat_natCast] at hq
  obtain⟨v,hv,hvok,hvn⟩:=hTg a ga
  have hve:v.t.cs=(chn x (l.take a)).t.cs:=by unfold nf at hvn;injection hvn
  rw[<- hve] at hq
  have hvd:=hvok.tok.dc
  have hvl:=eCs_len v.t.cs
  have hvb:=hvok.tok.hl
  have hv2:Ts[((a:Nat):Int).toNat]?=_:=hv
  obtain⟨Cv,hCv⟩:∃z,z=eCs v.t.cs:=⟨_,rfl⟩
  rw[<- hCv] at hvd hvl
  by_cases g6:(v.t.cs.length:Int)<=k
  ·rw[if_pos (.inr (.inr (.inr (.inr (.inr g6)))))] at hq
   subst hq
   have g6':(Cv.length:Int)<=k:=by omega
   clear hb h hbs hve hCv
   obtain⟨⟨nm,cs,ks,fs,xs⟩,dc,dk,df,dx⟩:=x
   refine F.bt_ref15_Column.go mixed rfl ?_
   repeat' first|refine st ?_|((with_reducible first|apply k_pn|apply k_pc);(·exact hT))|(with_reducible first|apply k_d|apply k_b)<;>intro _
   all_goals rfl
  ·rw[if_neg (by omega)] at hq
   have g6':k<(Cv.length:Int):=by omega
   have hSl:=stL_len l x
   have hSg:∀(i:Nat) c,l[i]?=some c->(stL x l)[i]?=some ⟨chn x (l.take i),(chn x (l.take i)).to c,c⟩:=λi c hc=>stL_get hc
   have hev:∀(i:Nat) c,l[i]?=some c->evoE (chn x (l.take i)).t c=0:=λi c hc=>stB_get hbs.2 hc
   obtain⟨S,hSS⟩:∃S,S=stL x l:=⟨_,rfl⟩
   rw[<- hSS] at hSl hSg hq
   obtain⟨cx,hcx⟩:∃z,z=λi=>chn x (l.take i):=⟨_,rfl⟩
   have zTg:∀i,i<=l.length->∃y:TD,Ts[i]?=some [.str y.t.nm,y.dc,y.dk,y.df,y.dx]/\y.ok/\nf y.t=nf (cx i).t:=λi hi=>by rw[hcx];exact hTg i hi
   have zSg:∀(i:Nat) c,l[i]?=some c->S[i]?=some ⟨cx i,(cx i).to c,c⟩:=λi c hc=>by rw[hcx];exact hSg i c hc
   have zev:∀(i:Nat) c,l[i]?=some c->evoE (cx i).t c=0:=λi c hc=>by rw[hcx];exact hev i c hc
   clear hb h hbs hve hCv hcx hSS hvn hTg hSg hev
   have hbf:=λi=>fwI_bd ((S.drop a).take (i-a)) k (by omega)
   have hbb:=λj=>bwI_bd ((S.drop j).take (a-j)) k (by omega)
   have hbbl:∀j,((S.drop j).take (a-j)).length<=1048576:=λj=>Nat.le_trans (List.length_take_le ..) (by omega)
   obtain⟨⟨nm,cs,ks,fs,xs⟩,dc,dk,df,dx⟩:=x
   refine F.bt_ref15_Column.go mixed rfl ?_
   repeat' first|refine st ?_|((with_reducible first|apply k_pn|apply k_pc);(·exact hT))|(with_reducible first|apply k_d|apply k_b)<;>intro _
   have hz0:fwI ((S.drop a).take (a-a)) k=k:=by simp[fwI]
   refine x_loop1 mixed Lt.bt_ref15_Column_l0 Lk.bt_ref15_Column_l0 (λ(i:Nat)=>[.d (eI (fwI ((S.drop a).take (i-a)) k)),.d (eI i)]) (λi=>[.cells [.d (.str nm),.d dc,.d dk,.d df,.d dx]]) (λi=>a<=i/\(i<=b\/i=a)) (λi=>b-i) a rfl rfl (by rw[hz0];rfl) rfl (λ_ _=>⟨rfl,rfl⟩) rfl ⟨Nat.le_refl _,.inr rfl⟩ ?_
   repeat' first|refine st ?_|(with_reducible first|apply k_d|apply k_b)<;>intro _
   intro i ⟨g7,g8⟩
   have hbi:=hbf i
   obtain⟨w,hw⟩:∃w,w=fwI ((S.drop a).take (i-a)) k:=⟨_,rfl⟩
   rw[<- hw] at hbi ⊢
   by_cases hib:i<b/\0<=w
   ·obtain⟨hib,hw0⟩:=hib
    obtain⟨c,hc⟩:∃c,l[i]?=some c:=⟨_,List.getElem?_eq_getElem (by omega)⟩
    obtain⟨y,hy1,hy2,hy3⟩:=zTg i (by omega)
    have hI:=C.r14_Index y.t y.dc y.dk y.df y.dx hy2.tok c (hls c (List.mem_of_getElem? hc)) w
    rw[idxE_nf hy3 c w] at hI
    have hsn:=fwI_snoc S a i _ k g7 (zSg i c hc)
    rw[<- hw] at hsn
    dsimp only at hsn
    obtain⟨w2,hw2⟩:∃z,z=idxE (cx i).t c w:=⟨_,rfl⟩
    rw[<- hw2] at hI hsn
    have hgl:=hgc i c hc
    have hy1':Ts[((i:Nat):Int).toNat]?=_:=hy1
    have hgl':es[((i:Nat):Int).toNat]?=_:=hgl
    have hil:(i:Int)<es.length:=by omega
    have hil2:(i:Int)<Ts.length:=by omega
    obtain⟨ck,cnm,to,⟨cn,cck,cl⟩,⟨vk,vn,vs⟩⟩:=c
    clear hw zTg zSg zev
    repeat' first|refine st ?_|((with_reducible first|apply k_pn|apply k_pc);(·exact hI))|(with_reducible first|apply k_d|apply k_b)<;>intro _
    refine⟨i+1,?_,rfl,rfl,by omega,by omega,.inl (by omega)⟩
    rw[hsn]
    rfl
   ·have hfin:(a<=b->w=fwI ((S.drop a).take (b-a)) k)/\(¬a<=b->w=k):=by
     refine⟨λhab=>?_,λhab=>?_⟩
     ·by_cases hbi2:i<b
      ·have hw1:w=-1:=by omega
       have e:(S.drop a).take (b-a)=(S.drop a).take (i-a)++((S.drop a).drop (i-a)).take (b-i):=by
        rw[show b-a=(i-a)+(b-i) by omega,List.take_add]
       rw[e]
       unfold fwI at hw ⊢
       rw[List.foldl_append,<- hw,hw1]
       exact(fwI_neg _).symm
      ·rw[hw,show i=b by omega]
     ·rw[hw,show i=a by omega,hz0]
    obtain⟨hf1,hf2⟩:=hfin
    have hcond:¬((i:Int)<b)\/w<0:=by omega
    by_cases hib1:i<b
    ·have hw1:w=-1:=by omega
     have hab:¬(b<a):=by omega
     have hqw:q=w:=by rw[hq,if_pos (by omega),<- hf1 (by omega)]
     subst hqw
     subst hw1
     clear zTg zSg zev hf1 hf2 hw hq
     repeat' first|refine st ?_|(with_reducible first|apply k_d|apply k_b)<;>intro _
     refine x_loop1 mixed Lt.bt_ref15_Column_l1 Lk.bt_ref15_Column_l1 (λ(j:Nat)=>[.d (eI (-1)),.d (eI a)]) (λj=>[.cells [.d (.str nm),.d dc,.d dk,.d df,.d dx]]) (λj=>True) (λj=>j) 0 rfl rfl rfl rfl (λ_ _=>⟨rfl,rfl⟩) rfl trivial ?_
     repeat' first|refine st ?_|(with_reducible first|apply k_d|apply k_b)<;>intro _
     intro j _
     repeat' first|refine st ?_|(with_reducible first|apply k_d|apply k_b)<;>intro _
     all_goals rfl
    ·by_cases hab:a<=b
     ·have hqw:q=w:=by rw[hq,if_pos (by omega),<- hf1 hab]
      subst hqw
      clear zTg zSg zev hf1 hf2 hw hq
      repeat' first|refine st ?_|(with_reducible first|apply k_d|apply k_b)<;>intro _
      refine x_loop1 mixed Lt.bt_ref15_Column_l1 Lk.bt_ref15_Column_l1 (λ(j:Nat)=>[.d (eI q),.d (eI a)]) (λj=>[.cells [.d (.str nm),.d dc,.d dk,.d df,.d dx]]) (λj=>True) (λj=>j) 0 rfl rfl rfl rfl (λ_ _=>⟨rfl,rfl⟩) rfl trivial ?_
      repeat' first|refine st ?_|(with_reducible first|apply k_d|apply k_b)<;>intro _
      intro j _
      repeat' first|refine st ?_|(with_reducible first|apply k_d|apply k_b)<;>intro _
      all_goals rfl
     ·have hwk:w=k:=hf2 hab
      subst hwk
      have hq:q=bwI ((S.drop b).take (a-b)) w:=by rw[hq,if_neg (by omega)]
      clear hf1 hf2 hw hbf hbi hcond
      have hz1:bwI ((S.drop a).take (a-a)) w=w:=by simp[bwI]
      repeat' first|refine st ?_|(with_reducible first|apply k_d|apply k_b)<;>intro _
      refine x_loop1 mixed Lt.bt_ref15_Column_l1 Lk.bt_ref15_Column_l1 (λ(j:Nat)=>[.d (eI (bwI ((S.drop j).take (a-j)) w)),.d (eI j)]) (λj=>[.cells [.d (.str nm),.d dc,.d dk,.d df,.d dx]]) (λj=>b<=j/\j<=a) (λj=>j) a rfl rfl (by rw[hz1];rfl) rfl (λ_ _=>⟨rfl,rfl⟩) rfl ⟨by omega,Nat.le_refl _⟩ ?_
      repeat' first|refine st ?_|(with_reducible first|apply k_d|apply k_b)<;>intro _
      intro j ⟨g9,g10⟩
      have hbj:=hbb j
      have hblj:=hbbl j
      obtain⟨u,hu⟩:∃u,u=bwI ((S.drop j).take (a-j)) w:=⟨_,rfl⟩
      rw[<- hu] at hbj ⊢
      by_cases hjb:b<j/\0<=u
      ·obtain⟨hjb,hu0⟩:=hjb
       obtain⟨p,rfl⟩:∃p,j=p+1:=⟨j-1,by omega⟩
       obtain⟨c,hc⟩:∃c,l[p]?=some c:=⟨_,List.getElem?_eq_getElem (by omega)⟩
       obtain⟨y,hy1,hy2,hy3⟩:=zTg p (by omega)
       have hI:=C.r15_back y hy2 c u (by omega) (by omega)
       rw[bkT_nf hy3 c u] at hI
       have hsn:=bwI_cons S a p _ w (by omega) (zSg p c hc)
       rw[<- hu] at hsn
       have hsm:bwI ((S.drop p).take (a-p)) w=bkT (cx p).t c u:=hsn
       obtain⟨w2,hw2⟩:∃z,z=bkT (cx p).t c u:=⟨_,rfl⟩
       rw[<- hw2] at hI hsm
       have hgl:=hgc p c hc
       have hp1:((((p+1:Nat):Int))-1).toNat=p:=by omega
       have hy1':Ts[((((p+1:Nat):Int))-1).toNat]?=some [.str y.t.nm,y.dc,y.dk,y.df,y.dx]:=by rw[hp1];exact hy1
       have hgl':es[((((p+1:Nat):Int))-1).toNat]?=some (chds c):=by rw[hp1];exact hgl
       have hil:(((p+1:Nat):Int))-1<es.length:=by omega
       have hil2:(((p+1:Nat):Int))-1<Ts.length:=by omega
       obtain⟨ck,cnm,to,⟨cn,cck,cl⟩,⟨vk,vn,vs⟩⟩:=c
       clear hu zTg zSg zev hbb hbbl
       repeat' first|refine st ?_|((with_reducible first|apply k_pn|apply k_pc);(·exact hI))|(with_reducible first|apply k_d|apply k_b)<;>intro _
       refine⟨p,?_,rfl,rfl,by omega,by omega,by omega⟩
       rw[hsm,show((p+1:Nat):Int)-1=p by omega]
      ·have hqu:q=u:=by
        by_cases hjb2:b<j
        ·have hu1:u=-1:=by omega
         have e:(S.drop b).take (a-b)=(S.drop b).take (j-b)++(S.drop j).take (a-j):=by
          rw[show a-b=(j-b)+(a-j) by omega,List.take_add,List.drop_drop,show b+(j-b)=j by omega]
         rw[hq,e]
         unfold bwI at hu ⊢
         rw[List.foldr_append,<- hu,hu1]
         refine bwI_neg _ λs hs=>?_
         obtain⟨n,hn⟩:=List.mem_iff_getElem?.1 (List.mem_of_mem_take hs)
         rw[List.getElem?_drop] at hn
         have hnl:=(List.getElem?_eq_some_iff.1 hn).1
         obtain⟨c,hc⟩:∃c,l[b+n]?=some c:=⟨_,List.getElem?_eq_getElem (by omega)⟩
         have h3:=zSg _ c hc
         rw[hn] at h3
         rw[Option.some.inj h3]
         exact bkT_neg (zev _ c hc)
        ·rw[hq,hu,show j=b by omega]
       rw[hqu]
       have hcj:¬((b:Int)<j)\/u<0:=by omega
       by_cases hjb1:b<j
       ·have hu1:u<0:=by omega
        clear hu zTg zSg zev hbb hbbl hq hqu
        repeat' first|refine st ?_|(with_reducible first|apply k_d|apply k_b)<;>intro _
        all_goals rfl
       ·clear hu zTg zSg zev hbb hbbl hq hqu
        repeat' first|refine st ?_|(with_reducible first|apply k_d|apply k_b)<;>intro _
        all_goals rfl
end Go.Proofs
end
section
namespace Go.Bi
open Go Go.Proofs Go.Shelf
def dvn:D->Option Value
 |.nil=>some (.slice none 0 0)
 |d=>dv d
theorem rd_dvn{M:Mem}{d:D}{u v:Value}(h:dvn d=some u)(r:Rd M d v):v=u:=by
 cases r<;>simp[dvn,dv] at h<;>exact h
theorem args_dvn{M:Mem}{G:Gh}{os:List AO}{ds:List D}{us:List Value}{vs:Array Value}(hl:ds.map dvn=us.map some)(hl':vs.size=(ds.map AV.d).length)(hv:∀(j:Nat) a v,(ds.map AV.d)[j]?=some a->vs[j]?=some v->VG M G os a v):vs=us.toArray:=by
 have hll:ds.length=us.length:=by have:=congrArg List.length hl;simpa using this
 have hsz:vs.size=us.length:=by rw[hl',List.length_map,hll]
 refine Array.ext (by simpa using hsz) λj h1 h2=>?_
 have hj:j<ds.length:=by omega
 have hj2:j<us.length:=by omega
 have k1:=hv j (.d ds[j]) vs[j] (by simp[hj]) (Array.getElem?_eq_getElem h1)
 have k2:dvn ds[j]=some us[j]:=by
  have:=congrArg (λl=>l[j]?) hl
  simpa[hj,hj2] using this
 have k3:=rd_dvn k2 k1
 simpa using k3
end Go.Bi
namespace Go.Proofs
open Go.Bi Go.Shelf
theorem infoV:∃i z,Tryz.prog.info? (Tryz.growV_ren.t 25)=some i/\i.zero=some z/\i.size=3/\i.bytes=32/\z.cells.size=3:=by
 have h:(match Tryz.prog.info? (Tryz.growV_ren.t 25) with
  |some i=>(match i.zero with
   |some z=>decide (i.size=3)&&decide (i.bytes=32)&&decide (z.cells.size=3)
   |none=>false)
  |none=>false)=true:=by kernel_rfl
 split at h
 ·rename_i i hi
  split at h
  ·rename_i z hz
   simp only[Bool.and_eq_true,decide_eq_true_eq] at h
   exact⟨i,z,hi,hz,h.1.1,h.1.2,h.2⟩
  ·cases h
 ·cases h
theorem enters_Grow:Bi.Enters Tryz.prog N.slices_Grow__api_Value_api_Value:=⟨_,Tryz.func105,by kernel_rfl,by decide⟩
theorem C.slices_Grow(n:Nat)(hn:n<=4194304):CallSpec Tryz.prog N.slices_Grow__api_Value_api_Value [.d .nil,.d (eI n)] [] (λr os=>r=.arr 0 0/\os=[.arr [] 3 0 (decide (n=0))]):=by
 by_cases h0:n=0
 ·subst h0
  refine CallSpec.own_nil 3 (by decide) ?_
  refine⟨enters_Grow,λM G w vs hE hl hv=>?_⟩
  obtain rfl:=args_dvn (ds:=[.nil,eI (0:Nat)]) (us:=[.slice none 0 0,.int .i64 (0:Nat)]) rfl hl hv
  refine(Any8.slices_Grow_room Tryz.growV none 0 0 0 w (by omega) (by omega) (by omega) (by omega)).mono ?_
  rintro e w' ⟨rfl,rfl⟩
  exact⟨_,rfl,M,G,.d .nil,[],hE,Since.refl ..,.nil,rfl,rfl⟩
 ·rw[decide_eq_false h0]
  refine⟨enters_Grow,λM G w vs hE hl hv=>?_⟩
  obtain rfl:=args_dvn (ds:=[.nil,eI (n:Nat)]) (us:=[.slice none 0 0,.int .i64 (n:Nat)]) rfl hl hv
  obtain⟨i,z,h1,h2,h3,h4,h5⟩:=infoV
  refine(Any8.slices_Grow_grow Tryz.growV i z h1 h2 (by omega) none 0 0 n [] w (by omega) (by omega) (by rw[h4];omega) (by omega) (by simp) (λ_=>rfl) (λa ha=>by cases ha)).mono ?_
  rintro e w' ⟨rfl,rfl⟩
  obtain⟨c,hc⟩:∃c,c=grownCap w (0+n) 0 (Tryz.growV_ren.t 25):=⟨_,rfl⟩
  have hge:0+n<=c:=by rw[hc];exact grownCap_ge ..
  have hle:c<=maxLen:=by rw[hc];exact grownCap_le_maxLen _ _ _ _ (by unfold maxLen;omega)
  rw[<- hc]
  obtain⟨ob,hob⟩:∃ob,ob=Obj.cells (([]:List Value).toArray++Builtin.zeroCells z.cells (0+n-0)++Builtin.zeroCells z.cells (c-(0+n))) (Tryz.growV_ren.t 25):=⟨_,rfl⟩
  rw[<- hob]
  have hor:OR M (G.ext ([]:List AO).length w.drew.heap.size c) ([]++[.arr [] 3 0 false]) (w.drew.alloc ob) ([]:List AO).length (.arr [] 3 0 false):=by
   refine⟨by omega,by simp,by simp,λh=>(by cases h),λ_=>⟨_,_,by rw[show(G.ext ([]:List AO).length w.drew.heap.size c).blk ([]:List AO).length=w.drew.heap.size by simp[Gh.ext],hob];exact heap_new w.drew _,?_,by simp,by simpa[Gh.ext] using hle,λi j y x hi hj=>by simp at hi,λk hk=>by omega⟩⟩
   simp only[Array.size_append,size_zeroCells,h5,Gh.ext,if_true,List.size_toArray,List.length_nil]
   omega
  have e1:=env_new hE.drew (.arr [] 3 0 false) ob c (λa v h=>cell_alloc_old a v h) hor (λ_ es sz frz nl h=>by cases h;rfl)
  have s1:=(since_drew M G [] w).trans (since_new hE.drew (.arr [] 3 0 false) ob c)
  refine⟨_,rfl,M,_,.arr 0 0,_,e1,s1,⟨rfl,[],3,0,false,rfl,Nat.le_refl _,λ_=>?_⟩,rfl,rfl⟩
  simp[Gh.slv,Gh.ext]
end Go.Proofs
end
section
namespace Go.Proofs
open Go.Bi
def catR(L:List (D×List (List D))):List (List D):=(L.map (·.2)).flatten
theorem catR_succ{L:List (D×List (List D))}{i:Nat}{p:D×List (List D)}(h:L[i]?=some p):catR (L.take (i+1))=catR (L.take i)++p.2:=by
 unfold catR
 rw[List.take_add_one,h];simp
theorem catR_le(L:List (D×List (List D)))(i:Nat):(catR (L.take i)).length<=(catR L).length:=by
 have e:catR L=catR (L.take i)++catR (L.drop i):=by unfold catR;rw[<- List.flatten_append,<- List.map_append,List.take_append_drop]
 rw[e,List.length_append];omega
theorem C.slices_Concat(L:List (D×List (List D)))(hLl:L.length<=1000)(hL:∀p∈L,SlD p.1 p.2/\∀e∈p.2,e.length=3)(hT:(catR L).length<=4194304) :
  CallSpec Tryz.prog N.slices_Concat__api_Value_api_Value [.d (.sl (L.map λp=>[p.1]))] [] (λr os=>r=.arr 0 (catR L).length/\os=[.arr (catR L) 3 0 (decide ((catR L).length=0))]):=by
 have hG:=C.slices_Grow (catR L).length hT
 obtain⟨n,hn⟩:∃n,n=(catR L).length:=⟨_,rfl⟩
 have hle:∀i,(catR (L.take i)).length<=n:=λi=>by rw[hn];exact catR_le L i
 rw[<- hn] at hG hT ⊢
 obtain⟨b,hb⟩:∃b,b=decide (n=0):=⟨_,rfl⟩
 rw[<- hb] at hG ⊢
 have hEl:(L.map λp=>[p.1]).length=L.length:=List.length_map ..
 have hEg:∀(i:Nat) p,L[i]?=some p->(L.map λp=>[p.1])[i]?=some [p.1]:=λi p h=>by rw[List.getElem?_map,h];rfl
 have hEm:∀e∈(L.map λp=>[p.1]),e.length=1:=λe he=>by obtain⟨p,_,rfl⟩:=List.mem_map.1 he;rfl
 obtain⟨Es,hEs⟩:∃z,z=L.map λp=>[p.1]:=⟨_,rfl⟩
 rw[<- hEs] at hEl hEg hEm ⊢
 clear hEs
 refine F.slices_Concat__api_Value_api_Value.goO mixed rfl ?_
 repeat' first|refine st ?_|(with_reducible first|apply k_d|apply k_b)<;>intro _
 refine x_loop1 mixed Lt.slices_Concat__api_Value_api_Value_l0 Lk.slices_Concat__api_Value_api_Value_l0 (λ(i:Nat)=>[.d (eI (catR (L.take i)).length),.d (eI i)]) (λi=>[]) (λi=>i<=L.length) (λi=>L.length-i) 0 rfl rfl rfl rfl (λ_ _=>⟨rfl,rfl⟩) rfl (Nat.zero_le _) ?_
 repeat' first|refine st ?_|(with_reducible first|apply k_d|apply k_b)<;>intro _
 intro i h4
 have hli:=hle i
 cases hx:L[i]? with
 |some p=>
  have hlt:=(List.getElem?_eq_some_iff.1 hx).1
  have hg:=hEg i p hx
  have hs:=catR_succ hx
  have hl2:=hle (i+1)
  obtain⟨h5,h6⟩:=hL p (List.mem_of_getElem? hx)
  have hs2:((catR (L.take (i+1))).length:Int)=(catR (L.take i)).length+p.2.length:=by rw[hs,List.length_append];omega
  obtain⟨m,hm⟩:∃m,m=(catR (L.take i)).length:=⟨_,rfl⟩
  rw[<- hm] at hs2 hli ⊢
  obtain⟨d,l⟩:=p
  dsimp only at hg hs2 h5 h6
  rcases h5 with ⟨rfl,rfl⟩|rfl
  ·repeat' first|refine st ?_|(with_reducible first|apply k_d|apply k_b)<;>intro _
   exact⟨i+1,by rw[hs2];rfl,rfl,rfl,by omega,by omega⟩
  ·repeat' first|refine st ?_|(with_reducible first|apply k_d|apply k_b)<;>intro _
   exact⟨i+1,by rw[hs2];rfl,rfl,rfl,by omega,by omega⟩
 |none=>
  have hge:=List.getElem?_eq_none_iff.1 hx
  rw[List.take_of_length_le hge,<- hn]
  repeat' first|refine st ?_|((with_reducible first|apply k_nc|apply k_cs);(·exact hG);(try rintro _ _ ⟨rfl,rfl⟩))|((with_reducible apply k_pr);(·exact hG))|((with_reducible apply k_cal);refine st ?_;(with_reducible apply k_chk);(·exact rfl);refine st ?_;(with_reducible apply k_cs);(·exact hG);(try rintro _ _ ⟨rfl,rfl⟩))|(with_reducible first|apply k_d|apply k_b)<;>intro _
  refine x_loop2 mixed Lt.slices_Concat__api_Value_api_Value_l1 Lk.slices_Concat__api_Value_api_Value_l1 (λ(j:Nat) (A:List (List D))=>[.arr 0 A.length,.d (eI j)]) (λj A=>[.arr A 3 0 b]) (λj A=>j<=L.length/\A=catR (L.take j)) (λj A=>L.length-j) 0 [] rfl rfl rfl rfl (λ_ _ _=>⟨rfl,rfl⟩) rfl ⟨Nat.zero_le _,rfl⟩ ?_
  repeat' first|refine st ?_|(with_reducible first|apply k_d|apply k_b)<;>intro _
  intro j A ⟨g1,g2⟩
  have hlj:=hle j
  cases hy:L[j]? with
  |some p=>
   have hlt:=(List.getElem?_eq_some_iff.1 hy).1
   have hg:=hEg j p hy
   have hs:=catR_succ hy
   have hl2:=hle (j+1)
   obtain⟨h5,h6⟩:=hL p (List.mem_of_getElem? hy)
   rw[<- g2] at hs hlj
   rw[hs,List.length_append] at hl2
   obtain⟨d,l⟩:=p
   dsimp only at hg hs h5 h6 hl2
   have hbd:(A.length+l.length)*32<=140737488355328/\A.length+l.length<=9223372036854775807:=by omega
   rcases h5 with ⟨rfl,rfl⟩|rfl
   ·repeat' first|refine st ?_|(with_reducible first|apply k_d|apply k_b)<;>intro _
    all_goals exact⟨j+1,A++[],by simp,by simp,rfl,by omega,by omega,by rw[hs]⟩
   ·cases l with
    |nil=>
     repeat' first|refine st ?_|(with_reducible first|apply k_d|apply k_b)<;>intro _
     all_goals exact⟨j+1,A++[],by simp,by simp,rfl,by omega,by omega,by rw[hs]⟩
    |cons e r=>
     have hb0:b=false:=by rw[hb];exact decide_eq_false (by simp at hl2;omega)
     subst hb0
     repeat' first|refine st ?_|(with_reducible first|apply k_d|apply k_b)<;>intro _
     all_goals exact⟨j+1,A++e::r,rfl,rfl,rfl,by omega,by omega,by rw[hs]⟩
  |none=>
   have hge2:=List.getElem?_eq_none_iff.1 hy
   rw[List.take_of_length_le hge2] at g2
   have hAl:A.length=n:=by rw[g2,hn]
   subst g2
   repeat' first|refine st ?_|(with_reducible first|apply k_d|apply k_b)<;>intro _
   all_goals exact⟨by rw[hAl],rfl⟩
end Go.Proofs
end
section
namespace Go.Proofs
open Go.Bi
theorem C.tuple_Fits(row:List Vl)(ks:List Int)(hr:row.length<=1048576)(hk:ks.length<=1048577)(hrs:∀v∈row,v.s.length<=1048576)(dr:D)(hdr:SlD dr (eVs row))(dk:D)(hdk:SlD dk (eIs ks)):Pure Tryz.prog N.tuple_Fits [.d dr,.d dk] (.d (.bool (fits row ks))):=by
 refine F.tuple_Fits.go mixed rfl ?_
 have h1:=eVs_len row
 have hm:=eVs_mem row
 have h2:=eIs_len ks
 have hm2:=eIs_mem ks
 obtain⟨q,hq⟩:∃q,q=fits row ks:=⟨_,rfl⟩
 rw[<- hq]
 by_cases hl:row.length=ks.length
 rotate_left
 ·have:q=false:=by rw[hq,fits,decide_eq_false hl];rfl
  rw[this]
  repeat' first|refine st ?_|((with_reducible apply go_i);conv=>whnf)|(with_reducible first|apply k_d|apply k_b)<;>intro _
  all_goals first|rfl|(exfalso;omega)
 unfold fits at hq
 rw[decide_eq_true hl,Bool.true_and] at hq
 have hl2:(eVs row).length=(eIs ks).length:=by omega
 repeat' first|refine st ?_|((with_reducible apply go_i);conv=>whnf)|(with_reducible first|apply k_d|apply k_b)<;>intro _
 refine x_loop1 mixed Lt.tuple_Fits_l0 Lk.tuple_Fits_l0 (λ(i:Nat)=>[.d (eI i)]) (λi=>[]) (λi=>i<=row.length/\((row.zip ks).take i).all (λp=>fitB p.1 p.2)=true) (λi=>row.length-i) 0 rfl rfl rfl rfl (λ_ _=>⟨rfl,rfl⟩) rfl ⟨by omega,rfl⟩ ?_
 repeat' first|refine st ?_|((with_reducible apply go_i);conv=>whnf)|(with_reducible first|apply k_d|apply k_b)<;>intro _
 intro i ⟨h4,h5⟩
 cases hx:row[i]? with
 |some v=>
  have hlt:=(List.getElem?_eq_some_iff.1 hx).1
  obtain⟨k,hkx⟩:∃k,ks[i]?=some k:=⟨_,List.getElem?_eq_getElem (by omega)⟩
  have hz:(row.zip ks)[i]?=some (v,k):=List.getElem?_zip_eq_some.2 ⟨hx,hkx⟩
  have hg:=eVs_get hx
  have hg2:=eIs_get hkx
  have hV:=C.value_Valid v (Nat.le_trans (hrs v (List.mem_of_getElem? hx)) (by omega))
  have hs:=all_take_succ2 (p:=λp=>fitB p.1 p.2) hz
  rw[h5,Bool.true_and] at hs
  dsimp only at hs
  cases hv:vValid v with
  |false=>
   rw[hv] at hV
   have hb:fitB v k=false:=by rw[fitB,hv];rfl
   have hf:=all_none2 (p:=λp=>fitB p.1 p.2) hz hb
   rw[hf] at hq
   repeat' first|refine st ?_|((with_reducible apply go_i);conv=>whnf)|((with_reducible first|apply k_pn|apply k_pc);(·exact hV))|(with_reducible first|apply k_d|apply k_b)<;>intro _
   all_goals (rw[hq])
  |true=>
   rw[hv] at hV
   by_cases hk0:v.k=0
   ·have hb:fitB v k=true:=by rw[fitB,hv,decide_eq_true hk0];rfl
    repeat' first|refine st ?_|((with_reducible apply go_i);conv=>whnf)|((with_reducible first|apply k_pn|apply k_pc);(·exact hV))|(with_reducible first|apply k_d|apply k_b)<;>intro _
    all_goals exact⟨i+1,rfl,rfl,rfl,by omega,by omega,hs.trans hb⟩
   ·by_cases hkk:v.k=k
    ·have hb:fitB v k=true:=by rw[fitB,hv,decide_eq_true hkk];simp
     repeat' first|refine st ?_|((with_reducible apply go_i);conv=>whnf)|((with_reducible first|apply k_pn|apply k_pc);(·exact hV))|(with_reducible first|apply k_d|apply k_b)<;>intro _
     all_goals exact⟨i+1,rfl,rfl,rfl,by omega,by omega,hs.trans hb⟩
    ·have hb:fitB v k=false:=by rw[fitB,hv,decide_eq_false hkk,decide_eq_false hk0];rfl
     have hf:=all_none2 (p:=λp=>fitB p.1 p.2) hz hb
     rw[hf] at hq
     repeat' first|refine st ?_|((with_reducible apply go_i);conv=>whnf)|((with_reducible first|apply k_pn|apply k_pc);(·exact hV))|(with_reducible first|apply k_d|apply k_b)<;>intro _
     all_goals (rw[hq])
 |none=>
  have hge:=List.getElem?_eq_none_iff.1 hx
  rw[List.take_of_length_le (by rw[List.length_zip];omega)] at h5
  rw[h5] at hq
  repeat' first|refine st ?_|((with_reducible apply go_i);conv=>whnf)|(with_reducible first|apply k_d|apply k_b)<;>intro _
  all_goals (rw[hq])
theorem C.cloneV(l:List (List D))(hl:l.length<=1048577)(hm:∀e∈l,e.length=3)(d:D)(hd:SlD d l):CallSpec Tryz.prog N.slices_Clone__api_Value_api_Value [.d d] [] (λr os=>r=.arr 0 l.length/\os=[.arr l 3 0 (isN d)]):=by
 rcases hd with ⟨rfl,rfl⟩|rfl
 ·refine CallSpec.own_nil 3 (by decide) ?_
  refine F.slices_Clone__api_Value_api_Value.go mixed rfl ?_
  repeat' first|refine st ?_|((with_reducible apply go_i);conv=>whnf)|(with_reducible first|apply k_d|apply k_b)<;>intro _
 ·refine F.slices_Clone__api_Value_api_Value.goO mixed rfl ?_
  have h0:([]:List (List D)).length=0:=rfl
  have h00:(([]:List (List D))++l).length=l.length:=rfl
  have hb:(([]:List (List D)).length+l.length)*32<=140737488355328/\([]:List (List D)).length+l.length<=9223372036854775807:=by rw[h0];omega
  repeat' first|refine st ?_|((with_reducible apply go_i);conv=>whnf)|(with_reducible first|apply k_d|apply k_b)<;>intro _
  all_goals (refine⟨rfl,?_⟩;cases l<;>rfl)
theorem own_data{P:Program}{f:FuncId}{args:List AV}{l:List (List D)}{sz frz:Nat}{nl:Bool}(h:CallSpec P f args [] (λr os=>r=.arr 0 l.length/\os=[.arr l sz frz nl])):Pure P f args (.d (slD nl l)):=
 h.deepP λr os h1=>by
  obtain⟨rfl,rfl⟩:=h1
  exact .inl (.inl ⟨_,.inl (.inr ⟨0,l,sz,frz,nl,rfl,rfl,rfl⟩),rfl⟩)
theorem C.cloneVP(l:List (List D))(hl:l.length<=1048577)(hm:∀e∈l,e.length=3)(d:D)(hd:SlD d l):Pure Tryz.prog N.slices_Clone__api_Value_api_Value [.d d] (.d d):=by
 have h:=own_data (C.cloneV l hl hm d hd)
 rwa [slD_isN hd] at h
def jn(l:List (List D)):D:=slD (decide (l.length=0)) l
theorem C.concat2(d1 d2:D)(l1 l2:List (List D))(h1:SlD d1 l1)(h2:SlD d2 l2)(m1:∀e∈l1,e.length=3)(m2:∀e∈l2,e.length=3)(hT:l1.length+l2.length<=4194304) :
  Pure Tryz.prog N.slices_Concat__api_Value_api_Value [.d (.sl [[d1],[d2]])] (.d (jn (l1++l2))):=by
 have e:catR [(d1,l1),(d2,l2)]=l1++l2:=by simp[catR]
 have h:=own_data (C.slices_Concat [(d1,l1),(d2,l2)] (by simp) (λp hp=>by simp at hp;rcases hp with rfl|rfl<;>first|exact⟨h1,m1⟩|exact⟨h2,m2⟩) (by rw[e,List.length_append];exact hT))
 rw[e] at h
 exact h
theorem C.concat3(d1 d2 d3:D)(l1 l2 l3:List (List D))(h1:SlD d1 l1)(h2:SlD d2 l2)(h3:SlD d3 l3)(m1:∀e∈l1,e.length=3)(m2:∀e∈l2,e.length=3)(m3:∀e∈l3,e.length=3)(hT:l1.length+l2.length+l3.length<=4194304) :
  Pure Tryz.prog N.slices_Concat__api_Value_api_Value [.d (.sl [[d1],[d2],[d3]])] (.d (jn (l1++l2++l3))):=by
 have e:catR [(d1,l1),(d2,l2),(d3,l3)]=l1++l2++l3:=by simp[catR]
 have h:=own_data (C.slices_Concat [(d1,l1),(d2,l2),(d3,l3)] (by simp) (λp hp=>by simp at hp;rcases hp with rfl|rfl|rfl<;>first|exact⟨h1,m1⟩|exact⟨h2,m2⟩|exact⟨h3,m3⟩) (by rw[e,List.length_append,List.length_append];exact hT))
 rw[e] at h
 exact h
theorem C.tuple_Concat(d1 d2:D)(l1 l2:List (List D))(h1:SlD d1 l1)(h2:SlD d2 l2)(m1:∀e∈l1,e.length=3)(m2:∀e∈l2,e.length=3)(hT:l1.length+l2.length<=4194304) :
  Pure Tryz.prog N.tuple_Concat [.d d1,.d d2] (.d (jn (l1++l2))):=by
 have h:=C.concat2 d1 d2 l1 l2 h1 h2 m1 m2 hT
 obtain⟨q,hq⟩:∃q,q=jn (l1++l2):=⟨_,rfl⟩
 rw[<- hq] at h ⊢
 refine F.tuple_Concat.go mixed rfl ?_
 repeat' first|refine st ?_|((with_reducible apply go_i);conv=>whnf)|((with_reducible first|apply k_pn|apply k_pc);(·exact h))|(with_reducible first|apply k_d|apply k_b)<;>intro _
 all_goals rfl
theorem C.mapping_changed(f:FuncId)(l:List (List D))(hl:l.length<=1048577)(hm:∀e∈l,e.length=3)(i:Nat)(v w:Vl)(hv:l[i]?=some v.ds)(hf:Pure Tryz.prog f [eV v] (eV w)):Pure Tryz.prog N.mapping_changed [.d (.sl l),.d (eI i),.d (.fn f)] (.d (.sl (l.set i w.ds))):=by
 have hC:=C.cloneV l hl hm (.sl l) (.inr rfl)
 have hlt:=(List.getElem?_eq_some_iff.1 hv).1
 have hsl:(l.set i w.ds).length=l.length:=by simp
 refine own_data (l:=l.set i w.ds) (sz:=3) (frz:=0) (nl:=false) ?_
 refine F.mapping_changed.goO mixed rfl ?_
 repeat' first|refine st ?_|((with_reducible apply go_i);conv=>whnf)|((with_reducible first|apply k_pn|apply k_pc);(·exact hf))|((with_reducible first|apply k_nc|apply k_cs);(·exact hC);(try rintro _ _ ⟨rfl,rfl⟩))|((with_reducible apply k_pr);(·exact hC))|((with_reducible apply k_cal);refine st ?_;(with_reducible apply k_chk);(·exact rfl);refine st ?_;(with_reducible apply k_cs);(·exact hC);(try rintro _ _ ⟨rfl,rfl⟩))|(with_reducible first|apply k_d|apply k_b)<;>intro _
 all_goals exact⟨by rw[hsl];rfl,rfl⟩
end Go.Proofs
end
section
namespace Go.Proofs
open Go.Bi
def txV(v:Vl):Vl:=if v.k=0 then v else vText (vLit v)
def bkV(k:Int)(v:Vl):Vl:=if (vPar v.s).2≠0\/v.k≠2\/(vPar v.s).1.k≠k then vNull else (vPar v.s).1
theorem txV_ok{v:Vl}(h:vValid v=true):vValid (txV v)=true/\((txV v).k=0\/(txV v).k=2):=by
 unfold txV
 split
 ·exact⟨h,.inl (by assumption)⟩
 ·exact⟨vOrN_valid _,(vOrN_k _).symm⟩
theorem parT_valid(r:List UInt8)(h:(parT r).2=0):vValid (parT r).1=true:=by
 unfold parT at *
 split at h
 ·cases h
 ·rename_i h1
  rw[if_neg h1]
  have hp:prB r.dropLast=true:=by
   cases e:prB r.dropLast with
   |true=>rfl
   |false=>exact absurd (.inr e) h1
  split at h
  ·cases h
  ·rename_i t hu
   split at h
   ·cases h
   ·rename_i h2
    simp only[if_neg h2]
    have:=unq_prB _ _ hu
    unfold vValid
    simp[this,hp]
    omega
theorem parI_valid(s:List UInt8)(h:(parI s).2=0):vValid (parI s).1=true:=by
 unfold parI at *
 generalize (if hp1 45 s=true then s.tail else s)=d at *
 generalize hp1 45 s=g at *
 split at h
 ·cases h
 ·rename_i h1
  simp only[if_neg h1]
  split at h
  ·cases h
  ·rename_i n hu
   split at h
   ·cases h
   ·rename_i h2
    simp only[if_neg h2]
    have:=(numF_nn _ _ _ (Int.le_refl _) hu).1
    unfold vValid
    simp
    split<;>omega
theorem vPar_valid(s:List UInt8)(h:(vPar s).2=0):vValid (vPar s).1=true:=by
 unfold vPar at *
 split
 ·rfl
 ·rename_i h1
  rw[if_neg h1] at h
  split
  ·rfl
  ·rename_i h2
   rw[if_neg h2] at h
   split
   ·rfl
   ·rename_i h3
    rw[if_neg h3] at h
    split
    ·rename_i h4
     rw[if_pos h4] at h
     exact parT_valid _ h
    ·rename_i h4
     rw[if_neg h4] at h
     exact parI_valid _ h
theorem bkV_ok(k:Int)(v:Vl):vValid (bkV k v)=true/\((bkV k v).k=0\/(bkV k v).k=k):=by
 unfold bkV
 split
 ·exact⟨rfl,.inl rfl⟩
 ·rename_i h
  refine⟨vPar_valid _ ?_,.inr ?_⟩
  ·by_cases e:(vPar v.s).2=0
   ·exact e
   ·exact absurd (.inl e) h
  ·by_cases e:(vPar v.s).1.k=k
   ·exact e
   ·exact absurd (.inr (.inr e)) h
theorem fits_iff(row:List Vl)(ks:List Int):fits row ks=true↔row.length=ks.length/\∀(i:Nat) v k,row[i]?=some v->ks[i]?=some k->vValid v=true/\(v.k=0\/v.k=k):=by
 unfold fits
 rw[Bool.and_eq_true,decide_eq_true_eq,List.all_eq_true]
 refine and_congr_right λhl=>⟨λh i v k h1 h2=>?_,λh p hp=>?_⟩
 ·have:=h (v,k) (List.mem_of_getElem? (List.getElem?_zip_eq_some.2 ⟨h1,h2⟩:(row.zip ks)[i]?=some (v,k)))
  unfold fitB at this
  simpa using this
 ·obtain⟨i,hi⟩:=List.mem_iff_getElem?.1 hp
  obtain⟨h1,h2⟩:=List.getElem?_zip_eq_some.1 hi
  have:=h i p.1 p.2 h1 h2
  unfold fitB
  simpa using this
theorem fits_bd{row:List Vl}{ks:List Int}(h:fits row ks=true):row.length=ks.length/\∀v∈row,v.s.length<=200:=by
 obtain⟨h1,h2⟩:=(fits_iff _ _).1 h
 refine⟨h1,λv hv=>?_⟩
 obtain⟨i,hi⟩:=List.mem_iff_getElem?.1 hv
 have hlt:=(List.getElem?_eq_some_iff.1 hi).1
 obtain⟨k,hk⟩:∃k,ks[i]?=some k:=⟨_,List.getElem?_eq_getElem (by omega)⟩
 have h3:=(h2 i v k hi hk).1
 unfold vValid at h3
 split at h3
 ·rw[(of_decide_eq_true h3).2];simp
 split at h3
 ·rw[(of_decide_eq_true h3).1];simp
 split at h3
 ·rw[Bool.and_eq_true] at h3;exact(of_decide_eq_true h3.1).2
 split at h3
 ·rw[(of_decide_eq_true h3).1];simp
 ·cases h3
def fwV(t:Tb)(c:Ch)(row:List Vl):List Vl:=
 if c.k=1 then row++[c.df] else if c.k=2 then row.eraseIdx (findC c.nm t.cs).toNat
 else if c.k=4 then row.set (findC c.nm t.cs).toNat (txV (row.getD (findC c.nm t.cs).toNat vNull)) else row
def bwV(t:Tb)(c:Ch)(row:List Vl):List Vl:=
 if c.k=1 then row.take t.cs.length else if c.k=2 then row.take (findC c.nm t.cs).toNat++vNull::row.drop (findC c.nm t.cs).toNat
 else if c.k=4 then row.set (findC c.nm t.cs).toNat (bkV (ckAt t (findC c.nm t.cs)) (row.getD (findC c.nm t.cs).toNat vNull)) else row
theorem kd_get(l:List Co)(i:Nat):(kd l)[i]?=(l[i]?).map Co.k:=by unfold kd;rw[List.getElem?_map]
theorem fits_fw{t:Tb}{c:Ch}(h:evoE t c=0){row:List Vl}(hf:fits row (kd t.cs)=true):fits (fwV t c row) (kd (evoT t c).cs)=true:=by
 obtain⟨q1,q2,q3,q4,q5⟩:=evo_inv h
 rw[fits_iff] at hf ⊢
 obtain⟨hl,hf⟩:=hf
 rw[kd_len] at hl
 unfold fwV evoT
 by_cases k1:c.k=1
 ·obtain⟨a1,a2,a3,a4,a5,a6,a7⟩:=add_inv (q4 k1)
  rw[if_pos k1,if_pos k1]
  refine⟨by rw[kd_len];simp[hl],λi v k h1 h2=>?_⟩
  rw[kd_get] at h2
  by_cases hi:i<row.length
  ·rw[List.getElem?_append_left hi] at h1
   rw[List.getElem?_append_left (by omega),<- kd_get] at h2
   exact hf i v k h1 h2
  ·rw[List.getElem?_append_right (by omega)] at h1
   rw[List.getElem?_append_right (by omega)] at h2
   have hi0:i-row.length=0:=by
    have:=(List.getElem?_eq_some_iff.1 h1).1
    simp at this;omega
   rw[hi0] at h1
   rw[<- hl,hi0] at h2
   cases h1
   cases h2
   exact⟨a5,by
    by_cases e:c.df.k=0
    ·exact .inl e
    ·exact .inr (a7 e)⟩
 ·obtain⟨i,co,hi,hco,hcn,hus,h4,h3⟩:=chg_inv (q5 k1)
  have hil:=(List.getElem?_eq_some_iff.1 hco).1
  have hiN:(findC c.nm t.cs).toNat=i:=by omega
  rw[if_neg k1,if_neg k1,hiN]
  by_cases k2:c.k=2
  ·rw[if_pos k2,if_pos k2]
   refine⟨by rw[kd_len,List.length_eraseIdx,List.length_eraseIdx];simp[hl],λj v k h1 h2=>?_⟩
   rw[kd_get] at h2
   dsimp only at h2
   rw[List.getElem?_eraseIdx] at h1 h2
   split at h1
   ·rw[if_pos (by assumption),<- kd_get] at h2
    exact hf j v k h1 h2
   ·rw[if_neg (by assumption),<- kd_get] at h2
    exact hf (j+1) v k h1 h2
  ·rw[if_neg k2,if_neg k2]
   have e:t.cs.getD i ⟨[],0,false⟩=co:=getD_at hco
   by_cases k3:c.k=3
   ·rw[if_neg (by omega),if_pos k3,e]
    refine⟨by rw[kd_len];simp[hl],λj v k h1 h2=>?_⟩
    rw[kd_get] at h2
    dsimp only at h2
    by_cases hj:i=j
    ·subst hj
     rw[List.getElem?_set_self hil] at h2
     refine hf i v k h1 ?_
     rw[kd_get,hco];exact h2
    ·rw[List.getElem?_set_ne hj,<- kd_get] at h2
     exact hf j v k h1 h2
   ·have k4:c.k=4:=by omega
    rw[if_pos k4,if_neg k3,e]
    refine⟨by rw[kd_len];simp[hl],λj v k h1 h2=>?_⟩
    rw[kd_get] at h2
    dsimp only at h2
    by_cases hj:i=j
    ·subst hj
     rw[List.getElem?_set_self hil] at h2
     rw[List.getElem?_set_self (by omega)] at h1
     cases h1;cases h2
     obtain⟨w,hw⟩:∃w,row[i]?=some w:=⟨_,List.getElem?_eq_getElem (by omega)⟩
     rw[List.getD_eq_getElem?_getD,hw]
     exact txV_ok (hf i w co.k hw (by rw[kd_get,hco];rfl)).1
    ·rw[List.getElem?_set_ne hj,<- kd_get] at h2
     rw[List.getElem?_set_ne hj] at h1
     exact hf j v k h1 h2
theorem fits_bw{t:Tb}{c:Ch}(h:evoE t c=0){row:List Vl}(hf:fits row (kd (evoT t c).cs)=true):fits (bwV t c row) (kd t.cs)=true:=by
 obtain⟨q1,q2,q3,q4,q5⟩:=evo_inv h
 rw[fits_iff] at hf ⊢
 obtain⟨hl,hf⟩:=hf
 rw[kd_len] at hl
 unfold bwV
 unfold evoT at hl hf
 by_cases k1:c.k=1
 ·rw[if_pos k1] at hl hf ⊢
  dsimp only at hl hf
  rw[List.length_append,List.length_singleton] at hl
  refine⟨by rw[kd_len,List.length_take];omega,λi v k h1 h2=>?_⟩
  have hi:=(List.getElem?_eq_some_iff.1 h2).1
  rw[kd_len] at hi
  rw[List.getElem?_take_of_lt hi] at h1
  refine hf i v k h1 ?_
  rw[kd_get,List.getElem?_append_left hi,<- kd_get]
  exact h2
 ·obtain⟨i,co,hi,hco,hcn,hus,h4,h3⟩:=chg_inv (q5 k1)
  have hil:=(List.getElem?_eq_some_iff.1 hco).1
  have hiN:(findC c.nm t.cs).toNat=i:=by omega
  rw[if_neg k1,hiN] at hl hf
  rw[if_neg k1,hiN,hi]
  by_cases k2:c.k=2
  ·rw[if_pos k2] at hl hf ⊢
   dsimp only at hl hf
   rw[List.length_eraseIdx,if_pos hil] at hl
   refine⟨by rw[kd_len];simp only[List.length_append,List.length_take,List.length_cons,List.length_drop];omega,λj v k h1 h2=>?_⟩
   have hjl:=(List.getElem?_eq_some_iff.1 h2).1
   rw[kd_len] at hjl
   rw[kd_get] at h2
   by_cases hj:j<i
   ·rw[List.getElem?_append_left (by rw[List.length_take];omega),List.getElem?_take_of_lt hj] at h1
    refine hf j v k h1 ?_
    rw[kd_get,List.getElem?_eraseIdx,if_pos hj];exact h2
   ·rw[List.getElem?_append_right (by rw[List.length_take];omega),List.length_take,Nat.min_eq_left (by omega)] at h1
    by_cases hji:j=i
    ·subst hji
     rw[Nat.sub_self] at h1
     cases h1
     exact⟨rfl,.inl rfl⟩
    ·obtain⟨p,rfl⟩:∃p,j=p+1:=⟨j-1,by omega⟩
     rw[show p+1-i=(p-i)+1 by omega,List.getElem?_cons_succ,List.getElem?_drop,show i+(p-i)=p by omega] at h1
     refine hf p v k h1 ?_
     rw[kd_get,List.getElem?_eraseIdx,if_neg (by omega)];exact h2
  ·rw[if_neg k2] at hl hf ⊢
   have e:t.cs.getD i ⟨[],0,false⟩=co:=getD_at hco
   by_cases k3:c.k=3
   ·rw[if_pos k3,e] at hl hf
    rw[if_neg (by omega)]
    dsimp only at hl hf
    rw[List.length_set] at hl
    refine⟨by rw[kd_len];exact hl,λj v k h1 h2=>?_⟩
    refine hf j v k h1 ?_
    rw[kd_get] at h2 ⊢
    by_cases hj:i=j
    ·subst hj
     rw[List.getElem?_set_self hil]
     rw[hco] at h2
     exact h2
    ·rw[List.getElem?_set_ne hj];exact h2
   ·have k4:c.k=4:=by omega
    rw[if_neg k3,e] at hl hf
    rw[if_pos k4]
    dsimp only at hl hf
    rw[List.length_set] at hl
    refine⟨by rw[kd_len,List.length_set];exact hl,λj v k h1 h2=>?_⟩
    rw[kd_get] at h2
    by_cases hj:i=j
    ·subst hj
     rw[List.getElem?_set_self (by omega)] at h1
     cases h1
     rw[hco] at h2
     cases h2
     have hck:ckAt t (i:Int)=co.k:=by unfold ckAt;rw[Int.toNat_natCast,hco]
     rw[hck]
     exact bkV_ok _ _
    ·rw[List.getElem?_set_ne hj] at h1
     refine hf j v k h1 ?_
     rw[kd_get,List.getElem?_set_ne hj];exact h2
end Go.Proofs
end
section
namespace Go.Proofs
open Go.Bi
theorem vLit_len(v:Vl)(hs:v.s.length<=1048576):(vLit v).length<=4194304:=by
 unfold vLit
 split
 ·simp
 ·rename_i hv
  split
  ·rename_i hk
   have h:=vValid_n (by simpa using hv) hk
   have:=Lib.itoa_length_le v.n (by omega) (by omega)
   omega
  ·split
   ·have:=quo1_len v.s
    simp only[List.length_append,List.length_cons,List.length_nil];omega
   ·split
    ·split<;>simp
    ·simp
theorem eVs_put(l:List Vl)(i:Nat)(v:Vl):(eVs l).set i v.ds=eVs (l.set i v):=by simp[eVs]
theorem eVs_join(a b:List Vl):eVs a++eVs b=eVs (a++b):=by simp[eVs]
theorem eVs_tk(l:List Vl)(i:Nat):(eVs l).take i=eVs (l.take i):=by simp[eVs]
theorem eVs_dr(l:List Vl)(i:Nat):(eVs l).drop i=eVs (l.drop i):=by simp[eVs]
theorem C.forward_c1(v:Vl)(hs:v.s.length<=1048576):Pure Tryz.prog N.mapping_step_forward_c1 [eV v] (eV (txV v)):=by
 have hL:=C.value_Literal v hs
 have hT:=C.value_Text (vLit v) (Nat.le_trans (vLit_len v hs) (by omega))
 obtain⟨q,hq⟩:∃q,q=txV v:=⟨_,rfl⟩
 rw[<- hq]
 unfold txV at hq
 obtain⟨l,hl⟩:∃l,l=vLit v:=⟨_,rfl⟩
 rw[<- hl] at hL hT hq
 clear hl
 obtain⟨k,n,s⟩:=v
 dsimp only at hq
 by_cases h0:k=0
 ·rw[if_pos h0] at hq
  subst hq
  refine F.mapping_step_forward_c1.go mixed rfl ?_
  repeat' first|refine st ?_|((with_reducible first|apply k_pn|apply k_pc);(·first|exact hL|exact hT))|(with_reducible first|apply k_d|apply k_b)<;>intro _
  all_goals rfl
 ·rw[if_neg h0] at hq
  rw[<- hq] at hT
  clear hq
  refine F.mapping_step_forward_c1.go mixed rfl ?_
  repeat' first|refine st ?_|((with_reducible first|apply k_pn|apply k_pc);(·first|exact hL|exact hT))|(with_reducible first|apply k_d|apply k_b)<;>intro _
  all_goals rfl
theorem C.mapping_step_forward(s:St)(h:s.x.ok)(hq:evoE s.x.t s.c=0)(row:List Vl)(hf:fits row (kd s.x.t.cs)=true):Pure Tryz.prog N.mapping_step_forward [s.av,.d (.sl (eVs row))] (.d (.sl (eVs (fwV s.x.t s.c row)))):=by
 have hP:=C.mapping_place s h
 obtain⟨q1,q2,q3,q4,q5⟩:=evo_inv hq
 have hv:=tab_vd.1 q1
 obtain⟨hl,hb⟩:=fits_bd hf
 rw[kd_len] at hl
 have hl1:1<=row.length/\row.length<=12:=by have:=hv.l1;have:=hv.l2;omega
 have he:=eVs_len row
 have hm:=eVs_mem row
 obtain⟨q,hqq⟩:∃q,q=fwV s.x.t s.c row:=⟨_,rfl⟩
 rw[<- hqq]
 unfold fwV at hqq
 unfold plI at hP
 by_cases k1:s.c.k=1
 ·rw[if_pos k1] at hqq hP
  have hT:=C.tuple_Concat (.sl (eVs row)) (.sl [s.c.df.ds]) (eVs row) [s.c.df.ds] sld_sl sld_sl hm (λe he=>by cases List.mem_singleton.1 he;rfl) (by simp only[List.length_singleton];omega)
  have hj:jn (eVs row++[s.c.df.ds])=.sl (eVs q):=by
   have e:eVs row++[s.c.df.ds]=eVs q:=by rw[hqq,<- eVs_join];rfl
   rw[e]
   unfold jn slD
   rw[decide_eq_false,if_neg (by decide)]
   rw[eVs_len,hqq];simp
  rw[hj] at hT
  clear hj hqq hf hb hq q1 q3 q4 q5 hv h
  obtain⟨⟨⟨nm,cs,ks,fs,xs⟩,dc,dk,df,dx⟩,y,⟨ck,cnm,to,⟨cn,cck,cl⟩,⟨vk,vn,vs⟩⟩⟩:=s
  dsimp only at k1
  subst k1
  refine F.mapping_step_forward.go mixed rfl ?_
  repeat' first|refine st ?_|((with_reducible first|apply k_pn|apply k_pc);(·first|exact hP|exact hT))|(with_reducible first|apply k_d|apply k_b)<;>intro _
  all_goals rfl
 ·obtain⟨i,co,hi,hco,hcn,hus,h4,h3⟩:=chg_inv (q5 k1)
  have hil:=(List.getElem?_eq_some_iff.1 hco).1
  rw[if_neg k1,hi,Int.toNat_natCast] at hqq
  rw[if_neg k1,hi] at hP
  by_cases k2:s.c.k=2
  ·rw[if_pos k2] at hqq
   obtain⟨d1,hd1⟩:∃z,z=((eVs row).drop (0:Int).toNat).take (((i:Nat):Int).toNat-(0:Int).toNat):=⟨_,rfl⟩
   obtain⟨d2,hd2⟩:∃z,z=((eVs row).drop (((i:Nat):Int)+1).toNat).take (((eVs row).length:Int).toNat-(((i:Nat):Int)+1).toNat):=⟨_,rfl⟩
   have e1:d1=eVs (row.take i):=by rw[hd1];simp[eVs_tk]
   have e2:d2=eVs (row.drop (i+1)):=by
    rw[hd2,show(((i:Nat):Int)+1).toNat=i+1 by omega,Int.toNat_natCast,List.take_of_length_le (by rw[List.length_drop];exact Nat.le_refl _),eVs_dr]
   have hT:=C.tuple_Concat (.sl d1) (.sl d2) d1 d2 sld_sl sld_sl (by rw[e1];exact eVs_mem _) (by rw[e2];exact eVs_mem _) (by rw[e1,e2,eVs_len,eVs_len,List.length_take,List.length_drop];omega)
   have hj:jn (d1++d2)=.sl (eVs q):=by
    have e:d1++d2=eVs q:=by rw[e1,e2,hqq,eVs_join,<- List.eraseIdx_eq_take_drop_succ]
    rw[e]
    unfold jn slD
    rw[decide_eq_false,if_neg (by decide)]
    rw[eVs_len,hqq,List.length_eraseIdx,if_pos (by omega)]
    intro e0
    have hvT:=(evo_vd hq).l1
    unfold evoT at hvT
    rw[if_neg k1,if_pos k2] at hvT
    dsimp only at hvT
    rw[hi,Int.toNat_natCast,List.length_eraseIdx,if_pos hil] at hvT
    omega
   rw[hj,hd1,hd2] at hT
   clear hj hqq hf hb hq q1 q3 q4 q5 hv h e1 e2 hd1 hd2
   obtain⟨⟨⟨nm,cs,ks,fs,xs⟩,dc,dk,df,dx⟩,y,⟨ck,cnm,to,⟨cn,cck,cl⟩,⟨vk,vn,vs⟩⟩⟩:=s
   dsimp only at k2 hl hil
   subst k2
   refine F.mapping_step_forward.go mixed rfl ?_
   repeat' first|refine st ?_|((with_reducible first|apply k_pn|apply k_pc);(·first|exact hP|exact hT))|(with_reducible first|apply k_d|apply k_b)<;>intro _
   all_goals rfl
  ·rw[if_neg k2] at hqq
   by_cases k4:s.c.k=4
   ·rw[if_pos k4] at hqq
    obtain⟨v,hw⟩:∃v,row[i]?=some v:=⟨_,List.getElem?_eq_getElem (by omega)⟩
    have hgd:row.getD i vNull=v:=by rw[List.getD_eq_getElem?_getD,hw];rfl
    rw[hgd] at hqq
    have hX:=C.mapping_changed N.mapping_step_forward_c1 (eVs row) (by omega) hm i v (txV v) (eVs_get hw) (C.forward_c1 v (by have:=hb v (List.mem_of_getElem? hw);omega))
    rw[eVs_put,<- hqq] at hX
    clear hqq hf hb hq q1 q3 q4 q5 hv h hgd
    obtain⟨⟨⟨nm,cs,ks,fs,xs⟩,dc,dk,df,dx⟩,y,⟨ck,cnm,to,⟨cn,cck,cl⟩,⟨vk,vn,vs⟩⟩⟩:=s
    dsimp only at k4
    subst k4
    refine F.mapping_step_forward.go mixed rfl ?_
    repeat' first|refine st ?_|((with_reducible first|apply k_pn|apply k_pc);(·first|exact hP|exact hX))|(with_reducible first|apply k_d|apply k_b)<;>intro _
    all_goals rfl
   ·rw[if_neg k4] at hqq
    subst hqq
    have hC:=C.cloneVP (eVs q) (by omega) hm (.sl (eVs q)) (.inr rfl)
    clear hf hb hq q1 q3 q4 q5 hv h
    obtain⟨⟨⟨nm,cs,ks,fs,xs⟩,dc,dk,df,dx⟩,y,⟨ck,cnm,to,⟨cn,cck,cl⟩,⟨vk,vn,vs⟩⟩⟩:=s
    dsimp only at k1 k2 k4
    refine F.mapping_step_forward.go mixed rfl ?_
    repeat' first|refine st ?_|((with_reducible first|apply k_pn|apply k_pc);(·first|exact hP|exact hC))|(with_reducible first|apply k_d|apply k_b)<;>intro _
    all_goals rfl
theorem C.mapping_changedC(f:FuncId)(o0 o1:List AV)(l:List (List D))(hl:l.length<=1048577)(hm:∀e∈l,e.length=3)(i:Nat)(v w:Vl)(hv:l[i]?=some v.ds)
  (hf:CallSpec Tryz.prog f [eV v,.ptr 0 0,.ptr 1 0] [.cells o0,.cells o1,.arr l 3 0 false] (λr os=>r=eV w/\os=[.cells o0,.cells o1,.arr l 3 0 false])) :
  CallSpec Tryz.prog N.mapping_changed [.d (.sl l),.d (eI i),.clo f [0,1]] [.cells o0,.cells o1] (λr os=>r=.arr 2 l.length/\os=[.cells o0,.cells o1,.arr (l.set i w.ds) 3 0 false]):=by
 have hC:=C.cloneV l hl hm (.sl l) (.inr rfl)
 have hlt:=(List.getElem?_eq_some_iff.1 hv).1
 refine F.mapping_changed.goO mixed rfl ?_
 repeat' first|refine st ?_|((with_reducible first|apply k_nc|apply k_cs);(·first|exact hC|exact hf);(try rintro _ _ ⟨rfl,rfl⟩))|((with_reducible apply k_pr);(·first|exact hC|exact hf))|((with_reducible apply k_cal);refine st ?_;(with_reducible apply k_chk);(·exact rfl);refine st ?_;(with_reducible apply k_cs);(·first|exact hC|exact hf);(try rintro _ _ ⟨rfl,rfl⟩))|(with_reducible first|apply k_d|apply k_b)<;>intro _
 all_goals exact⟨by first|rfl|simp,rfl⟩
theorem C.backward_c1(s:St)(h:s.x.ok)(hq:tabE s.x.t=0)(i:Nat)(co:Co)(hco:s.x.t.cs[i]?=some co)(l:List (List D))(v:Vl)(hs:v.s.length<=1048576) :
  CallSpec Tryz.prog N.mapping_step_backward_c1 [eV v,.ptr 0 0,.ptr 1 0] [.cells [.d (.str s.x.t.nm),.d s.x.dc,.d s.x.dk,.d s.x.df,.d s.x.dx,.d (.str s.y.t.nm),.d s.y.dc,.d s.y.dk,.d s.y.df,.d s.y.dx,.d (eI s.c.k),.d (.str s.c.nm),.d (.str s.c.to),.d (.str s.c.co.nm),.d (eI s.c.co.k),.d (.bool s.c.co.nl),.d (eI s.c.df.k),.d (eI s.c.df.n),.d (.str s.c.df.s)],.cells [.d (eI i)],.arr l 3 0 false]
   (λr os=>r=eV (bkV co.k v)/\os=[.cells [.d (.str s.x.t.nm),.d s.x.dc,.d s.x.dk,.d s.x.df,.d s.x.dx,.d (.str s.y.t.nm),.d s.y.dc,.d s.y.dk,.d s.y.df,.d s.y.dx,.d (eI s.c.k),.d (.str s.c.nm),.d (.str s.c.to),.d (.str s.c.co.nm),.d (eI s.c.co.k),.d (.bool s.c.co.nl),.d (eI s.c.df.k),.d (eI s.c.df.n),.d (.str s.c.df.s)],.cells [.d (eI i)],.arr l 3 0 false]):=by
 have hP:=C.value_Parse v.s hs
 have hN:=C.value_Null
 have hv:=tab_vd.1 hq
 have hdc:=dc_sl h.tok hv
 have hcl:=eCs_len s.x.t.cs
 have hil:=(List.getElem?_eq_some_iff.1 hco).1
 have hg:(eCs s.x.t.cs)[((i:Nat):Int).toNat]?=some co.ds:=eCs_get hco
 have hb:(eCs s.x.t.cs).length<=12:=by have:=hv.l2;omega
 obtain⟨q,hqq⟩:∃q,q=bkV co.k v:=⟨_,rfl⟩
 rw[<- hqq]
 unfold bkV at hqq
 obtain⟨⟨⟨wk,wn,ws⟩,e⟩,hw⟩:∃z,z=vPar v.s:=⟨_,rfl⟩
 rw[<- hw] at hP hqq
 dsimp only at hP hqq
 rw[hdc]
 obtain⟨Cs,hCs⟩:∃z,z=eCs s.x.t.cs:=⟨_,rfl⟩
 have hmC:=eCs_mem s.x.t.cs
 rw[<- hCs] at hcl hg hb hmC ⊢
 clear hw hCs hq hv hco h hdc
 obtain⟨k,n,t⟩:=v
 obtain⟨⟨⟨nm,cs,ks,fs,xs⟩,dc,dk,df,dx⟩,y,⟨ck,cnm,to,⟨cn,cck,cl⟩,⟨vk,vn,vs⟩⟩⟩:=s
 obtain⟨con,cok,conl⟩:=co
 dsimp only at hqq hcl hil
 have hil2:(i:Int)<Cs.length:=by omega
 by_cases g1:e=0
 rotate_left
 ·rw[if_pos (.inl g1)] at hqq
  subst hqq
  refine F.mapping_step_backward_c1.goX mixed rfl ?_
  repeat' first|refine st ?_|((with_reducible first|apply k_pn|apply k_pc);(·first|exact hP|exact hN))|(with_reducible first|apply k_d|apply k_b)<;>intro _
  all_goals exact⟨rfl,rfl⟩
 subst g1
 by_cases g2:k=2
 rotate_left
 ·rw[if_pos (.inr (.inl g2))] at hqq
  subst hqq
  refine F.mapping_step_backward_c1.goX mixed rfl ?_
  repeat' first|refine st ?_|((with_reducible first|apply k_pn|apply k_pc);(·first|exact hP|exact hN))|(with_reducible first|apply k_d|apply k_b)<;>intro _
  all_goals exact⟨rfl,rfl⟩
 subst g2
 by_cases g3:wk=cok
 ·rw[if_neg (by simp[g3])] at hqq
  subst hqq
  refine F.mapping_step_backward_c1.goX mixed rfl ?_
  repeat' first|refine st ?_|((with_reducible first|apply k_pn|apply k_pc);(·first|exact hP|exact hN))|(with_reducible first|apply k_d|apply k_b)<;>intro _
  all_goals exact⟨rfl,rfl⟩
 ·rw[if_pos (.inr (.inr g3))] at hqq
  subst hqq
  refine F.mapping_step_backward_c1.goX mixed rfl ?_
  repeat' first|refine st ?_|((with_reducible first|apply k_pn|apply k_pc);(·first|exact hP|exact hN))|(with_reducible first|apply k_d|apply k_b)<;>intro _
  all_goals exact⟨rfl,rfl⟩
theorem C.mapping_step_backward(s:St)(h:s.x.ok)(hq:evoE s.x.t s.c=0)(row:List Vl)(hf:fits row (kd (evoT s.x.t s.c).cs)=true):Pure Tryz.prog N.mapping_step_backward [s.av,.d (.sl (eVs row))] (.d (.sl (eVs (bwV s.x.t s.c row)))):=by
 have hP:=C.mapping_place s h
 obtain⟨q1,q2,q3,q4,q5⟩:=evo_inv hq
 have hv:=tab_vd.1 q1
 have hvT:=evo_vd hq
 obtain⟨hl,hb⟩:=fits_bd hf
 rw[kd_len] at hl
 have hl1:1<=row.length/\row.length<=12:=by have:=hvT.l1;have:=hvT.l2;omega
 have he:=eVs_len row
 have hm:=eVs_mem row
 obtain⟨q,hqq⟩:∃q,q=bwV s.x.t s.c row:=⟨_,rfl⟩
 rw[<- hqq]
 unfold bwV at hqq
 unfold plI at hP
 unfold evoT at hl
 by_cases k1:s.c.k=1
 ·rw[if_pos k1] at hqq hP hl
  dsimp only at hl
  rw[List.length_append,List.length_singleton] at hl
  obtain⟨n,hn⟩:∃n,n=s.x.t.cs.length:=⟨_,rfl⟩
  rw[<- hn] at hqq hP hl
  obtain⟨d1,hd1⟩:∃z,z=((eVs row).drop (0:Int).toNat).take (((n:Nat):Int).toNat-(0:Int).toNat):=⟨_,rfl⟩
  have e1:d1=eVs q:=by rw[hd1,hqq];simp[eVs_tk]
  have hC:=C.cloneVP d1 (by rw[e1,hqq,eVs_len,List.length_take];omega) (by rw[e1];exact eVs_mem _) (.sl d1) (.inr rfl)
  rw[<- e1]
  rw[hd1] at hC ⊢
  clear hqq hf hb hq q1 q3 q4 q5 hv h e1 hd1 hvT
  obtain⟨⟨⟨nm,cs,ks,fs,xs⟩,dc,dk,df,dx⟩,y,⟨ck,cnm,to,⟨cn,cck,cl⟩,⟨vk,vn,vs⟩⟩⟩:=s
  dsimp only at k1
  subst k1
  refine F.mapping_step_backward.go mixed rfl ?_
  repeat' first|refine st ?_|((with_reducible first|apply k_pn|apply k_pc);(·first|exact hP|exact hC))|(with_reducible first|apply k_d|apply k_b)<;>intro _
  all_goals rfl
 ·obtain⟨i,co,hi,hco,hcn,hus,h4,h3⟩:=chg_inv (q5 k1)
  have hil:=(List.getElem?_eq_some_iff.1 hco).1
  rw[if_neg k1,hi,Int.toNat_natCast] at hqq
  rw[if_neg k1,hi] at hP
  rw[if_neg k1,hi,Int.toNat_natCast] at hl
  by_cases k2:s.c.k=2
  ·rw[if_pos k2] at hqq hl
   dsimp only at hl
   rw[List.length_eraseIdx,if_pos hil] at hl
   obtain⟨d1,hd1⟩:∃z,z=((eVs row).drop (0:Int).toNat).take (((i:Nat):Int).toNat-(0:Int).toNat):=⟨_,rfl⟩
   obtain⟨d2,hd2⟩:∃z,z=((eVs row).drop (((i:Nat):Int)).toNat).take (((eVs row).length:Int).toNat-(((i:Nat):Int)).toNat):=⟨_,rfl⟩
   have e1:d1=eVs (row.take i):=by rw[hd1];simp[eVs_tk]
   have e2:d2=eVs (row.drop i):=by
    rw[hd2,Int.toNat_natCast,Int.toNat_natCast,List.take_of_length_le (by rw[List.length_drop];exact Nat.le_refl _),eVs_dr]
   have hT:=C.concat3 (.sl d1) (.sl [vNull.ds]) (.sl d2) d1 [vNull.ds] d2 sld_sl sld_sl sld_sl (by rw[e1];exact eVs_mem _) (λe he=>by cases List.mem_singleton.1 he;rfl) (by rw[e2];exact eVs_mem _) (by rw[e1,e2,eVs_len,eVs_len,List.length_take,List.length_drop,List.length_singleton];omega)
   have hj:jn (d1++[vNull.ds]++d2)=.sl (eVs q):=by
    have e:d1++[vNull.ds]++d2=eVs q:=by
     rw[e1,e2,hqq,show row.take i++vNull::row.drop i=row.take i++[vNull]++row.drop i by simp,<- eVs_join,<- eVs_join];rfl
    rw[e]
    unfold jn slD
    rw[decide_eq_false,if_neg (by decide)]
    rw[eVs_len,hqq];simp
   rw[hj,hd1,hd2] at hT
   have hN:=C.value_Null
   clear hj hqq hf hb hq q1 q3 q4 q5 hv h e1 e2 hd1 hd2 hvT
   obtain⟨⟨⟨nm,cs,ks,fs,xs⟩,dc,dk,df,dx⟩,y,⟨ck,cnm,to,⟨cn,cck,cl⟩,⟨vk,vn,vs⟩⟩⟩:=s
   dsimp only at k2 hl hil
   subst k2
   refine F.mapping_step_backward.go mixed rfl ?_
   repeat' first|refine st ?_|((with_reducible first|apply k_pn|apply k_pc);(·first|exact hP|exact hN|exact hT))|(with_reducible first|apply k_d|apply k_b)<;>intro _
   all_goals rfl
  ·rw[if_neg k2] at hqq hl
   have hl:row.length=s.x.t.cs.length:=by
    rw[hl];split<;>simp
   by_cases k4:s.c.k=4
   ·rw[if_pos k4] at hqq
    obtain⟨v,hw⟩:∃v,row[i]?=some v:=⟨_,List.getElem?_eq_getElem (by omega)⟩
    have hgd:row.getD i vNull=v:=by rw[List.getD_eq_getElem?_getD,hw];rfl
    have hck:ckAt s.x.t (i:Int)=co.k:=by unfold ckAt;rw[Int.toNat_natCast,hco]
    rw[hgd,hck] at hqq
    have hc1:=C.backward_c1 s h q1 i co hco (eVs row) v (by have:=hb v (List.mem_of_getElem? hw);omega)
    have hX:=C.mapping_changedC N.mapping_step_backward_c1 _ _ (eVs row) (by omega) hm i v (bkV co.k v) (eVs_get hw) hc1
    rw[eVs_put,<- hqq] at hX
    have hql:(eVs q).length=(eVs row).length:=by rw[hqq,eVs_len,eVs_len,List.length_set]
    clear hqq hf hb hq q1 q3 q4 q5 hv h hgd hc1 hvT
    obtain⟨⟨⟨nm,cs,ks,fs,xs⟩,dc,dk,df,dx⟩,y,⟨ck,cnm,to,⟨cn,cck,cl⟩,⟨vk,vn,vs⟩⟩⟩:=s
    dsimp only at k4
    subst k4
    refine F.mapping_step_backward.go mixed rfl ?_
    repeat' first|refine st ?_|((with_reducible first|apply k_pn|apply k_pc);(·exact hP))|((with_reducible first|apply k_nc|apply k_cs);(·exact hX);(try rintro _ _ ⟨rfl,rfl⟩))|((with_reducible apply k_pr);(·exact hX))|((with_reducible apply k_cal);refine st ?_;(with_reducible apply k_chk);(·exact rfl);refine st ?_;(with_reducible apply k_cs);(·exact hX);(try rintro _ _ ⟨rfl,rfl⟩))|(with_reducible first|apply k_d|apply k_b)<;>intro _
    all_goals first|rfl|exact⟨hql,rfl⟩
   ·rw[if_neg k4] at hqq
    subst hqq
    have hC:=C.cloneVP (eVs q) (by omega) hm (.sl (eVs q)) (.inr rfl)
    clear hf hb hq q1 q3 q4 q5 hv h hvT
    obtain⟨⟨⟨nm,cs,ks,fs,xs⟩,dc,dk,df,dx⟩,y,⟨ck,cnm,to,⟨cn,cck,cl⟩,⟨vk,vn,vs⟩⟩⟩:=s
    dsimp only at k1 k2 k4
    refine F.mapping_step_backward.go mixed rfl ?_
    repeat' first|refine st ?_|((with_reducible first|apply k_pn|apply k_pc);(·first|exact hP|exact hC))|(with_reducible first|apply k_d|apply k_b)<;>intro _
    all_goals rfl
end Go.Proofs
end
section
namespace Go.Proofs
open Go.Bi
def fwD(t:Tb)(c:Ch)(row:List Vl):D:=if evoE t c=0/\fits row (kd t.cs)=true then .sl (eVs (fwV t c row)) else .nil
def bwD(t:Tb)(c:Ch)(row:List Vl):D:=if evoE t c=0/\fits row (kd (evoT t c).cs)=true then .sl (eVs (bwV t c row)) else .nil
theorem row_sl{dr:D}{row:List Vl}(h:SlD dr (eVs row))(h1:1<=row.length):dr=.sl (eVs row):=by
 rcases h with ⟨_,h⟩|h
 ·rw[<- eVs_len,h] at h1;cases h1
 ·exact h
theorem C.mapping_Forward(x:TD)(h:x.ok)(c:Ch)(hc:Cok c)(row:List Vl)(hr:row.length<=1048576)(hrs:∀v∈row,v.s.length<=1048576)(dr:D)(hdr:SlD dr (eVs row)) :
  Pure Tryz.prog N.mapping_Forward [x.av,c.av,.d dr] (.d (fwD x.t c row)):=by
 have hN:=C.mapping_newStep x h c hc
 have hK:=C.schema_Kinds x.t.nm x.t.cs h.tok.hl x.dc x.dk x.df x.dx h.tok.dc
 have hF:=C.tuple_Fits row (kd x.t.cs) hr (by rw[kd_len];have:=h.tok.hl;omega) hrs dr hdr _ (kdD_sl x.t.cs)
 obtain⟨R,hR⟩:∃R,R=fwD x.t c row:=⟨_,rfl⟩
 rw[<- hR]
 unfold fwD at hR
 by_cases hq:evoE x.t c=0
 rotate_left
 ·rw[if_neg (λe=>hq e.1)] at hR
  subst hR
  rw[decide_eq_false hq] at hN
  obtain⟨y,hy⟩:∃y,y=x.to c:=⟨_,rfl⟩
  rw[<- hy] at hN
  clear hy hq h hK hF
  obtain⟨⟨nm,cs,ks,fs,xs⟩,dc,dk,df,dx⟩:=x
  obtain⟨ck,cnm,to,⟨cn,cck,cl⟩,⟨vk,vn,vs⟩⟩:=c
  refine F.mapping_Forward.go mixed rfl ?_
  repeat' first|refine st ?_|((with_reducible first|apply k_pn|apply k_pc);(·exact hN))|(with_reducible first|apply k_d|apply k_b)<;>intro _
  all_goals rfl
 rw[decide_eq_true hq] at hN
 cases hf:fits row (kd x.t.cs) with
 |false=>
  rw[hf] at hF hR
  rw[if_neg (λe=>by cases e.2)] at hR
  subst hR
  obtain⟨y,hy⟩:∃y,y=x.to c:=⟨_,rfl⟩
  rw[<- hy] at hN
  clear hy hq h hf
  obtain⟨⟨nm,cs,ks,fs,xs⟩,dc,dk,df,dx⟩:=x
  obtain⟨ck,cnm,to,⟨cn,cck,cl⟩,⟨vk,vn,vs⟩⟩:=c
  dsimp only at hK hF
  refine F.mapping_Forward.go mixed rfl ?_
  repeat' first|refine st ?_|((with_reducible first|apply k_pn|apply k_pc);(·first|exact hN|exact hK|exact hF))|(with_reducible first|apply k_d|apply k_b)<;>intro _
  all_goals rfl
 |true=>
  have hX:=C.mapping_step_forward ⟨x,x.to c,c⟩ h hq row hf
  have hl:=(fits_bd hf).1
  have hv:=(tab_vd.1 (evo_inv hq).1).l1
  rw[kd_len] at hl
  have hd:=row_sl hdr (by omega)
  subst hd
  rw[hf] at hF hR
  rw[if_pos ⟨hq,rfl⟩] at hR
  dsimp only at hX
  rw[<- hR] at hX
  obtain⟨y,hy⟩:∃y,y=x.to c:=⟨_,rfl⟩
  rw[<- hy] at hN hX
  clear hy hq h hf hR
  obtain⟨⟨nm,cs,ks,fs,xs⟩,dc,dk,df,dx⟩:=x
  obtain⟨ck,cnm,to,⟨cn,cck,cl⟩,⟨vk,vn,vs⟩⟩:=c
  dsimp only at hK hF
  refine F.mapping_Forward.go mixed rfl ?_
  repeat' first|refine st ?_|((with_reducible first|apply k_pn|apply k_pc);(·first|exact hN|exact hK|exact hF|exact hX))|(with_reducible first|apply k_d|apply k_b)<;>intro _
  all_goals rfl
theorem to_evo{x:TD}{c:Ch}(hq:evoE x.t c=0):(x.to c).t=evoT x.t c:=by unfold TD.to;rw[if_pos hq];rfl
theorem C.mapping_Backward(x:TD)(h:x.ok)(c:Ch)(hc:Cok c)(row:List Vl)(hr:row.length<=1048576)(hrs:∀v∈row,v.s.length<=1048576)(dr:D)(hdr:SlD dr (eVs row)) :
  Pure Tryz.prog N.mapping_Backward [x.av,c.av,.d dr] (.d (bwD x.t c row)):=by
 have hN:=C.mapping_newStep x h c hc
 have hok:=TD.to_ok h hc
 have hK:=C.schema_Kinds (x.to c).t.nm (x.to c).t.cs hok.tok.hl (x.to c).dc (x.to c).dk (x.to c).df (x.to c).dx hok.tok.dc
 have hF:=C.tuple_Fits row (kd (x.to c).t.cs) hr (by rw[kd_len];have:=hok.tok.hl;omega) hrs dr hdr _ (kdD_sl _)
 obtain⟨R,hR⟩:∃R,R=bwD x.t c row:=⟨_,rfl⟩
 rw[<- hR]
 unfold bwD at hR
 by_cases hq:evoE x.t c=0
 rotate_left
 ·rw[if_neg (λe=>hq e.1)] at hR
  subst hR
  rw[decide_eq_false hq] at hN
  clear hK hF hok
  obtain⟨y,hy⟩:∃y,y=x.to c:=⟨_,rfl⟩
  rw[<- hy] at hN
  clear hy hq h
  obtain⟨⟨nm,cs,ks,fs,xs⟩,dc,dk,df,dx⟩:=x
  obtain⟨ck,cnm,to,⟨cn,cck,cl⟩,⟨vk,vn,vs⟩⟩:=c
  refine F.mapping_Backward.go mixed rfl ?_
  repeat' first|refine st ?_|((with_reducible first|apply k_pn|apply k_pc);(·exact hN))|(with_reducible first|apply k_d|apply k_b)<;>intro _
  all_goals rfl
 rw[decide_eq_true hq] at hN
 rw[<- to_evo hq] at hR
 cases hf:fits row (kd (x.to c).t.cs) with
 |false=>
  rw[hf] at hF hR
  rw[if_neg (λe=>by cases e.2)] at hR
  subst hR
  clear hf hok
  obtain⟨y,hy⟩:∃y,y=x.to c:=⟨_,rfl⟩
  rw[<- hy] at hN hK hF
  clear hy hq h
  obtain⟨⟨nm,cs,ks,fs,xs⟩,dc,dk,df,dx⟩:=x
  obtain⟨ck,cnm,to,⟨cn,cck,cl⟩,⟨vk,vn,vs⟩⟩:=c
  refine F.mapping_Backward.go mixed rfl ?_
  repeat' first|refine st ?_|((with_reducible first|apply k_pn|apply k_pc);(·first|exact hN|exact hK|exact hF))|(with_reducible first|apply k_d|apply k_b)<;>intro _
  all_goals rfl
 |true=>
  have hX:=C.mapping_step_backward ⟨x,x.to c,c⟩ h hq row (by show fits row (kd (evoT x.t c).cs)=true;rw[<- to_evo hq];exact hf)
  have hl:=(fits_bd hf).1
  have hv:=(evo_vd hq).l1
  rw[<- to_evo hq] at hv
  rw[kd_len] at hl
  have hd:=row_sl hdr (by omega)
  subst hd
  rw[hf] at hF hR
  rw[if_pos ⟨hq,rfl⟩] at hR
  dsimp only at hX
  rw[<- hR] at hX
  clear hf hok hl hv hR
  obtain⟨y,hy⟩:∃y,y=x.to c:=⟨_,rfl⟩
  rw[<- hy] at hN hX hK hF
  clear hy hq h
  obtain⟨⟨nm,cs,ks,fs,xs⟩,dc,dk,df,dx⟩:=x
  obtain⟨ck,cnm,to,⟨cn,cck,cl⟩,⟨vk,vn,vs⟩⟩:=c
  refine F.mapping_Backward.go mixed rfl ?_
  repeat' first|refine st ?_|((with_reducible first|apply k_pn|apply k_pc);(·first|exact hN|exact hK|exact hF|exact hX))|(with_reducible first|apply k_d|apply k_b)<;>intro _
  all_goals rfl
end Go.Proofs
end
