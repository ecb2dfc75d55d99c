/- Texts of this claim, joined. No condition. -/
import Derived.Test.YtfnaleemmeejcaaGreatQ8
set_option linter.unusedSimpArgs false
set_option linter.unusedVariables false
set_option maxRecDepth 10000
set_option maxHeartbeats 4000000
section
namespace Go.Proofs
open Go.Bi
abbrev tyA(p:Pl)(kd:D):AV:=.agg (p.ds.map .d++[.d kd])
abbrev rcv(din:D):List AO:=[.cells [.d din]]
theorem C.typed(K:List Kw)(hK:K.length<=4194304)(hKb:∀k∈K,k.ks.length<=4194304)(din:D)(hin:SlD din (eKw K))(p:Pl)(hb:p.bk<=1048576) :
  CallSpec Tryz.prog N.poptimize_rewriter_typed [.ptr 0 0,p.av] (rcv din) (λr os=>r=tyA p (cpF K p).1.d/\os=rcv din):=by
 have hC:=C.snapshot_Check K hK hKb din hin p hb
 obtain⟨op',n',dk',dr',xo',xn',xv',xm',xd',dx',dy',da',di',c1,c2⟩:=Pl.cut p
 unfold tyA
 rw[c2] at hC ⊢
 rw[c1]
 obtain⟨kd,hkd⟩:∃d,d=(cpF K p).1.d:=⟨_,rfl⟩
 obtain⟨ke,hke⟩:∃d,d=(cpF K p).2:=⟨_,rfl⟩
 rw[<- hkd,<- hke] at hC
 rw[<- hkd]
 clear hkd hke c1 c2
 have r0:xv'.k=xv'.k:=rfl
 have r1:xv'.s=xv'.s:=rfl
 have r2:xm'=xm':=rfl
 refine F.poptimize_rewriter_typed.goX mixed rfl ?_
 repeat' first|refine st ?_|((with_reducible apply go_i);conv=>whnf)|refine⟨λ_=>?_,λ_=>?_⟩|fail
 all_goals exact⟨rfl,rfl⟩
def flP(p:Pl)(l:List Ex):Pl:=if l.length=0 then p else pl0 3 0 (allX false (l.map (shf 0))) [p]
theorem C.filtered(p:Pl)(l:List Ex)(hb:∀x∈l,x.bk<=1048576)(hl:l.length<=1048576)(d:D)(hd:SlD d (xL l)):Pure Tryz.prog N.optimize_filtered [p.av,.d d] (flP p l).av:=by
 have hA:=C.predicate_All l hb hl d hd
 obtain⟨q,hq⟩:∃q,q=flP p l:=⟨_,rfl⟩
 rw[<- hq]
 unfold flP at hq
 have l1:=xL_len l
 obtain⟨es,hes⟩:∃z,z=xL l:=⟨_,rfl⟩
 rw[<- hes] at hd l1
 clear hes
 have hpc:=Pl.cut p
 by_cases h:l.length=0
 ·rw[if_pos h] at hq
  subst hq
  have h0:(es.length:Int)=0:=by omega
  obtain⟨op',n',dk',dr',xo',xn',xv',xm',xd',dx',dy',da',di',c1,c2⟩:=hpc
  rw[c2]
  clear c1 c2 hA
  refine F.optimize_filtered.go mixed rfl ?_
  repeat' first|refine st ?_|((with_reducible apply go_i);conv=>whnf)|refine⟨λ_=>?_,λ_=>?_⟩|fail
  all_goals rfl
 ·rw[if_neg h] at hq
  have h0:¬(es.length:Int)=0:=by omega
  subst hq
  obtain⟨e,he⟩:∃e,e=allX false (l.map (shf 0)):=⟨_,rfl⟩
  rw[<- he] at hA ⊢
  clear he
  obtain⟨xo,xn,xv,xm,xl,xa⟩:=e
  rw[Ex.av_mk] at hA
  rw[pl0_av]
  have e1:ng true (pL [p])=.sl [p.ds]:=rfl
  rw[e1]
  obtain⟨op',n',dk',dr',xo',xn',xv',xm',xd',dx',dy',da',di',c1,c2⟩:=hpc
  rw[c1,c2]
  obtain⟨xd,hxd⟩:∃d,d=ng xl (xL xa):=⟨_,rfl⟩
  rw[<- hxd] at hA ⊢
  clear c1 c2 hxd e1
  refine F.optimize_filtered.go mixed rfl ?_
  repeat' first|refine st ?_|((with_reducible apply go_i);conv=>whnf)|refine⟨λ_=>?_,λ_=>?_⟩|fail
  all_goals rfl
theorem rcvK{g:FuncId}{din:D}{r:AV}{ars:List AV}(h:CallSpec Tryz.prog g ars (rcv din) (λr' os'=>r'=r/\os'=rcv din))(ha:∀a∈ars,a.bnd2 1)(hr:∀f,mA f r=r)(rest:List AO) :
  CallSpec Tryz.prog g ars (rcv din++rest) (λr' os'=>r'=r/\os'=rcv din++rest):=
 CallSpec.pre h rest ha (by
  intro o ho
  simp only[List.mem_cons,List.not_mem_nil,or_false] at ho
  subst ho;simp[AO.bnd,AV.bnd1]) (by
  rintro r' bs' ⟨rfl,rfl⟩
  refine⟨rfl,?_,hr,rfl,rfl⟩
  intro o ho
  simp only[List.mem_cons,List.not_mem_nil,or_false] at ho
  subst ho;simp[AO.bnd,AV.bnd1])
theorem rcvL{g:FuncId}{din:D}{r:AV}{ars ars':List AV}(id:Nat)(h:CallSpec Tryz.prog g ars (rcv din) (λr' os'=>r'=r/\os'=rcv din))(hm:∀n,ars.map (mG (rn [id] n))=ars')(hba:∀a∈ars,a.bnd2 1)(hr:∀f,mA f r=r)(os:List AO)(ho:os[id]?=some (.cells [.d din])) :
  CallSpec Tryz.prog g ars' os (λr' os'=>r'=r/\os'=os):=by
 have:=CallSpec.frame (K:=λr' os'=>r'=r/\os'=os) h [id] os rfl (by simp) (λi o hx=>?_) hba (λo hx=>?_) ?_
 ·rw[hm] at this;exact this
 ·cases i with
  |zero=>simp at hx;subst hx;exact ho
  |succ i=>simp at hx
 ·cases List.mem_singleton.1 hx
  simp[AO.bnd,AV.bnd1]
 ·rintro _ _ ⟨rfl,rfl⟩
  refine⟨hr _,?_⟩
  have hlt:=(List.getElem?_eq_some_iff.1 ho).1
  have e:os.set id (.cells [.d din])=os:=by
   apply List.ext_getElem?
   intro j
   rw[List.getElem?_set]
   by_cases hj:id=j
   ·subst hj
    rw[if_pos rfl,if_pos hlt,ho]
   ·rw[if_neg hj]
  show putA _ [id] (rcv din) os=os
  simp only[putA,mO,mC,List.map_cons,List.map_nil,List.append_nil]
  exact e
theorem tyA_ds(p:Pl)(kd:D):tyA p kd=.agg ((p.ds++[kd]).map .d):=by unfold tyA;simp
theorem rcv_a(ds:List D):∀a∈[AV.ptr 0 0,.agg (ds.map .d)],a.bnd2 1:=by
 intro a ha
 simp only[List.mem_cons,List.not_mem_nil,or_false] at ha
 rcases ha with rfl|rfl
 ·simp[AV.bnd2,AV.bnd1]
 ·exact bnd_ds _ _
theorem rcv_b(ds:List D)(d:D):∀a∈[AV.ptr 0 0,.agg (ds.map .d),.d d],a.bnd2 1:=by
 intro a ha
 simp only[List.mem_cons,List.not_mem_nil,or_false] at ha
 rcases ha with rfl|rfl|rfl
 ·simp[AV.bnd2,AV.bnd1]
 ·exact bnd_ds _ _
 ·simp[AV.bnd2,AV.bnd1]
theorem C.place_leaf(din:D)(o:Po)(ni:Bool)(ins:List Pl)(ho:o.op≠3/\o.op≠5/\o.op≠6)(kd:D)(l:List Ex)(hb:∀x∈l,x.bk<=1048576)(hl:l.length<=1048576)(d:D)(hd:SlD d (xL l)) :
  CallSpec Tryz.prog N.poptimize_rewriter_place [.ptr 0 0,tyA (.mk o ni ins) kd,.d d] (rcv din) (λr os=>r=(flP (.mk o ni ins) l).av/\os=rcv din):=by
 have hF:=C.filtered (.mk o ni ins) l hb hl d hd
 obtain⟨q,hq⟩:∃q,q=flP (.mk o ni ins) l:=⟨_,rfl⟩
 rw[<- hq] at hF ⊢
 clear hq
 obtain⟨op',n',dk',dr',xo',xn',xv',xm',xd',dx',dy',da',di',c1,c2⟩:=Pl.cut q
 rw[c2] at hF ⊢
 obtain⟨o1,o2,o3⟩:=ho
 obtain⟨op,n,nk,ki,nr,rows,⟨xo,xn,xv,xm,xl,xa⟩,nx,xs,ny,keys,na,aggs⟩:=o
 dsimp only at o1 o2 o3
 have hds:(Pl.mk (⟨op,n,nk,ki,nr,rows,.mk xo xn xv xm xl xa,nx,xs,ny,keys,na,aggs⟩:Po) ni ins).ds=ePld op n (ng nk (eIs ki)) (ng nr (eRs rows)) xo xn xv xm (ng xl (xL xa)) (ng nx (xL xs)) (ng ny (eIs keys)) (ng na (eAs aggs)) (ng ni (pL ins)):=Pl.ds_eq _ _ _ _ _ _ _ _ _ rfl
 have hav:(Pl.mk (⟨op,n,nk,ki,nr,rows,.mk xo xn xv xm xl xa,nx,xs,ny,keys,na,aggs⟩:Po) ni ins).av=ePl op n (ng nk (eIs ki)) (ng nr (eRs rows)) xo xn xv xm (ng xl (xL xa)) (ng nx (xL xs)) (ng ny (eIs keys)) (ng na (eAs aggs)) (ng ni (pL ins)):=Pl.av_eq _ _ _ _ _ _ _ _ _ rfl
 rw[hav] at hF
 unfold tyA
 rw[hds]
 obtain⟨dk,e1⟩:∃d,d=ng nk (eIs ki):=⟨_,rfl⟩
 obtain⟨dr,e2⟩:∃d,d=ng nr (eRs rows):=⟨_,rfl⟩
 obtain⟨dx,e3⟩:∃d,d=ng nx (xL xs):=⟨_,rfl⟩
 obtain⟨dy,e4⟩:∃d,d=ng ny (eIs keys):=⟨_,rfl⟩
 obtain⟨da,e5⟩:∃d,d=ng na (eAs aggs):=⟨_,rfl⟩
 obtain⟨di,e6⟩:∃d,d=ng ni (pL ins):=⟨_,rfl⟩
 obtain⟨xd,e7⟩:∃d,d=ng xl (xL xa):=⟨_,rfl⟩
 rw[<- e1,<- e2,<- e3,<- e4,<- e5,<- e6,<- e7] at hF ⊢
 clear e1 e2 e3 e4 e5 e6 e7 hav hds c1 c2
 have r0:xv.k=xv.k:=rfl
 have r1:xv.s=xv.s:=rfl
 have r2:xm=xm:=rfl
 have r3:xv'.s=xv'.s:=rfl
 have r4:xm'=xm':=rfl
 refine F.poptimize_rewriter_place.goX mixed rfl ?_
 repeat' first|refine st ?_|((with_reducible apply go_i);conv=>whnf)|refine⟨λ_=>?_,λ_=>?_⟩|fail
 all_goals exact⟨rfl,rfl⟩
abbrev cjl(l:List Ex):List Ex:=(cj (allX false (l.map (shf 0)))).map (shf 0)
theorem C.place_join(K:List Kw)(hK:K.length<=4194304)(hKb:∀k∈K,k.ks.length<=4194304)(din:D)(hin:SlD din (eKw K))(n:Int)(pred:Ex)(a b:Pl)(hab:a.bk<=1048576)(hbb:b.bk<=1048576)(kd:D)(l:List Ex)(hb:∀x∈l,x.bk<=1048576)(hl:l.length<=1048576)(d:D)(hd:SlD d (xL l))
  (hall:(allX false (l.map (shf 0))).bk<=1048576) (m:Nat) (hm:(cpF K a).1.ks.length=m) (hm2:m<=48) (hr:∀x∈cjl l,x.bk<=1048576) (hrl:(cjl l).length<=1048576) (ra rb:Pl)
  (hA:CallSpec Tryz.prog N.poptimize_rewriter_place [.ptr 0 0,tyA a (cpF K a).1.d,.d (nsl (xL (sel m 0 (cjl l))))] (rcv din) (λr os=>r=ra.av/\os=rcv din))
  (hB:CallSpec Tryz.prog N.poptimize_rewriter_place [.ptr 0 0,tyA b (cpF K b).1.d,.d (ng true (xL ((sel m 1 (cjl l)).map (shf (0-m)))))] (rcv din) (λr os=>r=rb.av/\os=rcv din)) :
  CallSpec Tryz.prog N.poptimize_rewriter_place [.ptr 0 0,tyA (pl0 5 n pred [a,b]) kd,.d d] (rcv din) (λr os=>r=(flP (pl0 5 n pred [ra,rb]) (sel m 2 (cjl l))).av/\os=rcv din):=by
 have hTa:=C.typed K hK hKb din hin a hab
 have hTb:=C.typed K hK hKb din hin b hbb
 have hAl:=C.predicate_All l hb hl d hd
 have hSp:=C.predicate_Split m (allX false (l.map (shf 0))) hall
 have hsel:∀k:Nat,∀x∈sel m k (cjl l),x∈cjl l:=λk x hx=>(List.mem_filter.1 hx).1
 have hsl:∀k:Nat,(sel m k (cjl l)).length<=1048576:=λk=>Nat.le_trans (List.length_filter_le _ _) hrl
 have hFl:=C.filtered (pl0 5 n pred [ra,rb]) (sel m 2 (cjl l)) (λx hx=>hr x (hsel 2 x hx)) (hsl 2) (nsl (xL (sel m 2 (cjl l)))) (by rw[nsl_ng];exact sld_ng)
 have hSh:=λx hx=>C.expr_Shift x (hr x (hsel 1 x hx)) (0-(m:Int))
 obtain⟨q,hq⟩:∃q,q=flP (pl0 5 n pred [ra,rb]) (sel m 2 (cjl l)):=⟨_,rfl⟩
 rw[<- hq] at hFl ⊢
 clear hq hb hl hall hrl hr
 have hska:SlD (cpF K a).1.d (eIs (cpF K a).1.ks):=sld_ng
 have hkl:=eIs_len (cpF K a).1.ks
 rw[hm] at hkl
 obtain⟨ka,hka⟩:∃d,d=(cpF K a).1.d:=⟨_,rfl⟩
 obtain⟨kb,hkb⟩:∃d,d=(cpF K b).1.d:=⟨_,rfl⟩
 obtain⟨ek,hek⟩:∃z,z=eIs (cpF K a).1.ks:=⟨_,rfl⟩
 rw[<- hka] at hTa hA hska
 rw[<- hkb] at hTb hB
 rw[<- hek] at hska hkl
 clear hka hkb hek hm
 obtain⟨d0,hd0⟩:∃z,z=nsl (xL (sel m 0 (cjl l))):=⟨_,rfl⟩
 obtain⟨d2,hd2⟩:∃z,z=nsl (xL (sel m 2 (cjl l))):=⟨_,rfl⟩
 have hs1:SlD (nsl (xL (sel m 1 (cjl l)))) (xL (sel m 1 (cjl l))):=by rw[nsl_ng];exact sld_ng
 obtain⟨d1,hd1⟩:∃z,z=nsl (xL (sel m 1 (cjl l))):=⟨_,rfl⟩
 have hSp:Bi.Pure Tryz.prog N.predicate_Split [(allX false (l.map (shf 0))).av,.d (eI m)] (.tup [.d (nsl (xL (sel m 0 (cjl l)))),.d (nsl (xL (sel m 1 (cjl l)))),.d (nsl (xL (sel m 2 (cjl l))))]):=hSp
 rw[<- hd0,<- hd1,<- hd2] at hSp
 rw[<- hd0] at hA
 rw[<- hd1] at hs1
 rw[<- hd2] at hFl
 clear hd0 hd1 hd2
 obtain⟨L,hL⟩:∃z,z=sel m 1 (cjl l):=⟨_,rfl⟩
 rw[<- hL] at hs1 hB hSh
 have hLl:L.length<=1048576:=by rw[hL];exact hsl 1
 clear hsel hsl
 clear hL
 obtain⟨e,he⟩:∃e,e=allX false (l.map (shf 0)):=⟨_,rfl⟩
 rw[<- he] at hAl hSp
 clear he
 obtain⟨eo,en,ev',em,el,ea⟩:=e
 rw[Ex.av_mk] at hAl hSp
 obtain⟨ed,hed⟩:∃d,d=ng el (xL ea):=⟨_,rfl⟩
 rw[<- hed] at hAl hSp
 clear hed
 have hm1:∀(ds:List D) n,[AV.ptr 0 0,.agg (ds.map .d)].map (mG (rn [0] n))=[.ptr 0 0,.agg (ds.map .d)]:=λds n=>by
  rw[List.map_cons,List.map_cons,List.map_nil,mG_ds];rfl
 have hTaL:=λos2 (ho:os2[0]?=some (AO.cells [.d din]))=>rcvL 0 hTa (hm1 a.ds) (rcv_a _) (λf=>by rw[tyA_ds];exact mA_ds f _) os2 ho
 have hTbL:=λos2 (ho:os2[0]?=some (AO.cells [.d din]))=>rcvL 0 hTb (hm1 b.ds) (rcv_a _) (λf=>by rw[tyA_ds];exact mA_ds f _) os2 ho
 clear hm1
 rw[show ng true (xL (L.map (shf (0-(m:Int)))))=if (xL (L.map (shf (0-(m:Int))))).isEmpty then .nil else .sl (xL (L.map (shf (0-(m:Int))))) by cases xL (L.map (shf (0-(m:Int))))<;>rfl] at hB
 have hAL:=λrest=>rcvK hA (by rw[tyA_ds];exact rcv_b _ _) (λf=>mA_ds f _) rest
 have hBL:=λrest=>rcvK hB (by rw[tyA_ds];exact rcv_b _ _) (λf=>mA_ds f _) rest
 clear hTa hTb hA hB
 unfold tyA at *
 obtain⟨xo,xn,xv,xm,xl,xa⟩:=pred
 rw[pl0_ds]
 have hpav:(pl0 5 n (.mk xo xn xv xm xl xa) [ra,rb]).av=_:=pl0_av 5 n xo xn xv xm xl xa [ra,rb]
 rw[hpav] at hFl
 have e1:ng true (pL [a,b])=.sl [a.ds,b.ds]:=rfl
 have e2:ng true (pL [ra,rb])=.sl [ra.ds,rb.ds]:=rfl
 rw[e1]
 rw[e2] at hFl
 clear e1 e2 hpav
 obtain⟨xd,hxd⟩:∃d,d=ng xl (xL xa):=⟨_,rfl⟩
 rw[<- hxd] at hFl ⊢
 clear hxd
 obtain⟨ao,an,ak,ar,axo,axn,axv,axm,axd,adx,ady,ada,adi,a1,a2⟩:=Pl.cut a
 obtain⟨bo,bn,bk',br,bxo,bxn,bxv,bxm,bxd,bdx,bdy,bda,bdi,b1,b2⟩:=Pl.cut b
 obtain⟨co,cn,ck,cr,cxo,cxn,cxv,cxm,cxd,cdx,cdy,cda,cdi,c1,c2⟩:=Pl.cut ra
 obtain⟨do',dn,dk,dr,dxo,dxn,dxv,dxm,dxd,ddx,ddy,dda,ddi,d3,d4⟩:=Pl.cut rb
 obtain⟨fo,fn,fk,fr,fxo,fxn,fxv,fxm,fxd,fdx,fdy,fda,fdi,f1,f2⟩:=Pl.cut q
 have hTaL:∀os2:List AO,os2[0]?=some (AO.cells [.d din])->CallSpec Tryz.prog N.poptimize_rewriter_typed [.ptr 0 0,ePl ao an ak ar axo axn axv axm axd adx ady ada adi] os2 (λr' os'=>r'=.agg ((ePld ao an ak ar axo axn axv axm axd adx ady ada adi).map .d++[.d ka])/\os'=os2):=λos2 ho=>by
  have:=hTaL os2 ho
  rw[a1] at this
  exact this
 have hTbL:∀os2:List AO,os2[0]?=some (AO.cells [.d din])->CallSpec Tryz.prog N.poptimize_rewriter_typed [.ptr 0 0,ePl bo bn bk' br bxo bxn bxv bxm bxd bdx bdy bda bdi] os2 (λr' os'=>r'=.agg ((ePld bo bn bk' br bxo bxn bxv bxm bxd bdx bdy bda bdi).map .d++[.d kb])/\os'=os2):=λos2 ho=>by
  have:=hTbL os2 ho
  rw[b1] at this
  exact this
 rw[a1] at hAL ⊢
 rw[b1] at hBL ⊢
 rw[c2] at hAL
 rw[d4] at hBL
 rw[c1,d3,f2] at hFl
 rw[f2]
 clear a1 a2 b1 b2 c1 c2 d3 d4 f1 f2
 have lL:=xL_len L
 have mL:=xL_mem L
 have gL:=λi x=>@xL_get L i x
 obtain⟨es,hes⟩:∃z,z=xL L:=⟨_,rfl⟩
 rw[<- hes] at hs1 lL mL gL
 clear hes
 rw[<- hkl] at hSp
 refine F.poptimize_rewriter_place.goX mixed rfl ?_
 repeat' first|refine st ?_|((with_reducible apply go_i);conv=>whnf)|((with_reducible apply k_pa);(·first|exact hTaL|exact hTbL))|refine⟨λ_=>?_,λ_=>?_⟩|fail
 refine x_nil 13 7 rfl rfl ?_
 refine x_exitW ?_
 refine x_loop1 mixed Lt.poptimize_rewriter_place_l0 Lk.poptimize_rewriter_place_l0 (λ(i:Nat)=>[.arr 5 (xL ((L.take i).map (shf (0-(m:Int))))).length,.d (eI i)]) (λi=>[.cells [.d din],.cells [.d (eI 5),.d (eI n),.d .nil,.d .nil,.d (eI xo),.d (eI xn),.d (eI xv.k),.d (eI xv.n),.d (.str xv.s),.d (.str xm),.d xd,.d .nil,.d .nil,.d .nil,.d (.sl [ePld ao an ak ar axo axn axv axm axd adx ady ada adi,ePld bo bn bk' br bxo bxn bxv bxm bxd bdx bdy bda bdi]),.d kd],.cells [.d (eI 0),.d (eI 0),.d .nil,.d .nil,.d (eI 0),.d (eI 0),.d (eI 0),.d (eI 0),.d (.str []),.d (.str []),.d .nil,.d .nil,.d .nil,.d .nil,.d .nil],.cells [.d (eI ao),.d (eI an),.d ak,.d ar,.d (eI axo),.d (eI axn),.d (eI axv.k),.d (eI axv.n),.d (.str axv.s),.d (.str axm),.d axd,.d adx,.d ady,.d ada,.d adi,.d ka],.cells [.d (eI bo),.d (eI bn),.d bk',.d br,.d (eI bxo),.d (eI bxn),.d (eI bxv.k),.d (eI bxv.n),.d (.str bxv.s),.d (.str bxm),.d bxd,.d bdx,.d bdy,.d bda,.d bdi,.d kb],.arr (xL ((L.take i).map (shf (0-(m:Int))))) 7 0 (xL ((L.take i).map (shf (0-(m:Int))))).isEmpty]) (λi=>i<=L.length) (λi=>L.length-i) 0 rfl rfl rfl rfl (λ_ _=>⟨rfl,rfl⟩) rfl (by omega) ?_
 repeat' first|refine st ?_|((with_reducible apply go_i);conv=>whnf)|refine⟨λ_=>?_,λ_=>?_⟩|fail
 intro i i1
 have hw1:(xL ((L.take i).map (shf (0-(m:Int))))).length=i:=by rw[xL_len,List.length_map,List.length_take];omega
 have hwm:=xL_mem ((L.take i).map (shf (0-(m:Int))))
 have hbd:((xL ((L.take i).map (shf (0-(m:Int))))).length+1)*88<=140737488355328:=by omega
 cases hx:L[i]? with
 |some x=>
  have hlt:=(List.getElem?_eq_some_iff.1 hx).1
  have hilt:(i:Int)<es.length:=by omega
  have hg:=gL i x hx
  have hS:=hSh x (List.mem_of_getElem? hx)
  have ht:xL ((L.take (i+1)).map (shf (0-(m:Int))))=xL ((L.take i).map (shf (0-(m:Int))))++[(shf (0-(m:Int)) x).ds]:=by rw[List.take_add_one,hx];simp[xL]
  obtain⟨A,hA'⟩:∃z,z=xL ((L.take i).map (shf (0-(m:Int)))):=⟨_,rfl⟩
  rw[<- hA'] at hw1 hwm hbd ht ⊢
  obtain⟨y,hy⟩:∃y,y=shf (0-(m:Int)) x:=⟨_,rfl⟩
  rw[<- hy] at hS ht
  clear hy gL hx hA' hSh hTaL hTbL hAL hBL hFl hAl hSp
  obtain⟨x1,x2,x3,x4,x5,x6⟩:=x
  obtain⟨y1,y2,y3,y4,y5,y6⟩:=y
  rw[Ex.av_mk,Ex.av_mk] at hS
  rw[Ex.ds_mk] at hg ht
  have hg:es[((i:Nat):Int).toNat]?=some (xds x1 x2 x3 x4 (ng x5 (xL x6))):=hg
  obtain⟨z1,hz1⟩:∃d,d=ng x5 (xL x6):=⟨_,rfl⟩
  obtain⟨z2,hz2⟩:∃d,d=ng y5 (xL y6):=⟨_,rfl⟩
  rw[<- hz1,<- hz2] at hS
  rw[<- hz1] at hg
  rw[<- hz2] at ht
  clear hz1 hz2
  rw[<- hkl] at hS
  have q0:x3.s=x3.s:=rfl
  have q1:x4=x4:=rfl
  have q2:y3.s=y3.s:=rfl
  have q3:y4=y4:=rfl
  repeat' first|refine st ?_|((with_reducible apply go_i);conv=>whnf)|refine⟨λ_=>?_,λ_=>?_⟩|fail
  exact⟨i+1,by rw[ht];simp,rfl,by rw[ht];simp,by omega,by omega⟩
 |none=>
  have hge:=List.getElem?_eq_none_iff.1 hx
  have hilt:(es.length:Int)<=i:=by omega
  rw[List.take_of_length_le hge] at hw1 hwm hbd ⊢
  obtain⟨A,hA'⟩:∃z,z=xL (L.map (shf (0-(m:Int)))):=⟨_,rfl⟩
  rw[<- hA'] at hw1 hwm hbd hBL ⊢
  clear gL hx hA' hSh hTaL hTbL hAl hSp
  repeat' first|refine st ?_|((with_reducible apply go_i);conv=>whnf)|refine⟨λ_=>?_,λ_=>?_⟩|fail
  refine⟨_,_,WeakL.frz 13 rfl rfl rfl WeakL.refl,?_⟩
  refine go_o ?_
  repeat' first|refine st ?_|((with_reducible apply go_i);conv=>whnf)|((with_reducible first|apply k_nc|apply k_cs);(·first|exact hAL _|exact hBL _);(try rintro _ _ ⟨rfl,rfl⟩))|((with_reducible apply k_pr);(·first|exact hAL _|exact hBL _))|refine⟨λ_=>?_,λ_=>?_⟩|fail
  all_goals exact⟨rfl,rfl⟩
theorem rcv_m(ds:List D)(g:FuncId):∀a∈[AV.agg (ds.map .d),.bcl g 0],a.bnd2 1:=by
 intro a ha
 simp only[List.mem_cons,List.not_mem_nil,or_false] at ha
 rcases ha with rfl|rfl
 ·exact bnd_ds _ _
 ·simp[AV.bnd2,AV.bnd1]
theorem C.push_o(din:D)(Φ:Pl->Pl)(op n:Int)(pred:Ex)(ins:List Pl)(hop:op≠3)(hpb:pred.bk<=1048576)(hil:ins.length<=1048576)(hf:∀x∈ins,CallSpec Tryz.prog N.poptimize_rewriter_push [.ptr 0 0,x.av] (rcv din) (λr os=>r=(Φ x).av/\os=rcv din)) :
  CallSpec Tryz.prog N.poptimize_rewriter_push [.ptr 0 0,(pl0 op n pred ins).av] (rcv din) (λr os=>r=(pl0 op n (shf 0 pred) (ins.map Φ)).av/\os=rcv din):=by
 have hM:=C.mapped0 N.poptimize_rewriter_push Φ din op n pred hpb ins hil hf
 have hML:=λrest=>rcvK hM (rcv_m _ _) (λf=>mA_ds f _) rest
 clear hM hf
 obtain⟨e2,he2⟩:∃e,e=shf 0 pred:=⟨_,rfl⟩
 rw[<- he2] at hML ⊢
 clear he2 hpb
 obtain⟨xo,xn,xv,xm,xl,xa⟩:=pred
 obtain⟨yo,yn,yv,ym,yl,ya⟩:=e2
 have e1:=pl0_av op n xo xn xv xm xl xa ins
 have e2:=pl0_av op n yo yn yv ym yl ya (ins.map Φ)
 rw[e1,e2] at hML ⊢
 obtain⟨xd,hxd⟩:∃d,d=ng xl (xL xa):=⟨_,rfl⟩
 obtain⟨yd,hyd⟩:∃d,d=ng yl (xL ya):=⟨_,rfl⟩
 obtain⟨d1,hd1⟩:∃d,d=ng true (pL ins):=⟨_,rfl⟩
 obtain⟨d2,hd2⟩:∃d,d=ng true (pL (ins.map Φ)):=⟨_,rfl⟩
 rw[<- hxd,<- hyd,<- hd1,<- hd2] at hML ⊢
 clear hxd hyd hd1 hd2 e1 e2
 have r0:xv.k=xv.k:=rfl
 have r1:xv.s=xv.s:=rfl
 have r2:xm=xm:=rfl
 have r3:yv.s=yv.s:=rfl
 have r4:ym=ym:=rfl
 refine F.poptimize_rewriter_push.goX mixed rfl ?_
 repeat' first|refine st ?_|((with_reducible apply go_i);conv=>whnf)|((with_reducible first|apply k_nc|apply k_cs);(·exact hML _);(try rintro _ _ ⟨rfl,rfl⟩))|((with_reducible apply k_pr);(·exact hML _))|refine⟨λ_=>?_,λ_=>?_⟩|fail
 all_goals first|exact⟨rfl,rfl⟩|(exfalso;omega)
theorem C.push_f(K:List Kw)(hK:K.length<=4194304)(hKb:∀k∈K,k.ks.length<=4194304)(din:D)(hin:SlD din (eKw K))(n:Int)(pred:Ex)(a b q:Pl)(hpb:pred.bk<=1048576)(hpb2:(shf 0 pred).bk<=1048576)(hbb:b.bk<=1048576)(hf:CallSpec Tryz.prog N.poptimize_rewriter_push [.ptr 0 0,a.av] (rcv din) (λr os=>r=b.av/\os=rcv din))
  (hP:CallSpec Tryz.prog N.poptimize_rewriter_place [.ptr 0 0,tyA b (cpF K b).1.d,.d (nsl (xL ((cj (shf 0 pred)).map (shf 0))))] (rcv din) (λr os=>r=q.av/\os=rcv din)) :
  CallSpec Tryz.prog N.poptimize_rewriter_push [.ptr 0 0,(pl0 3 n pred [a]).av] (rcv din) (λr os=>r=q.av/\os=rcv din):=by
 have hM:=C.mapped0 N.poptimize_rewriter_push (λ_=>b) din 3 n pred hpb [a] (by simp) (λx hx=>by rw[List.mem_singleton.1 hx];exact hf)
 have hML:=λrest=>rcvK hM (rcv_m _ _) (λf=>mA_ds f _) rest
 have hT:=C.typed K hK hKb din hin b hbb
 have hC:=C.predicate_Conjuncts (shf 0 pred) hpb2
 have hTL:=λrest=>rcvK hT (rcv_a _) (λf=>by rw[tyA_ds];exact mA_ds f _) rest
 have hPL:=λrest=>rcvK hP (by rw[tyA_ds];exact rcv_b _ _) (λf=>mA_ds f _) rest
 clear hM hf hT hP
 obtain⟨d,hd⟩:∃d,d=nsl (xL ((cj (shf 0 pred)).map (shf 0))):=⟨_,rfl⟩
 rw[<- hd] at hC hPL
 clear hd
 obtain⟨kd,hkd⟩:∃d,d=(cpF K b).1.d:=⟨_,rfl⟩
 rw[<- hkd] at hTL hPL
 clear hkd
 obtain⟨e2,he2⟩:∃e,e=shf 0 pred:=⟨_,rfl⟩
 rw[<- he2] at hML hC
 clear he2 hpb hpb2
 obtain⟨xo,xn,xv,xm,xl,xa⟩:=pred
 obtain⟨yo,yn,yv,ym,yl,ya⟩:=e2
 have e1:=pl0_av 3 n xo xn xv xm xl xa [a]
 have e2:=pl0_av 3 n yo yn yv ym yl ya [b]
 have hML:∀rest,CallSpec Tryz.prog N.optimize_mapped [(pl0 3 n (.mk xo xn xv xm xl xa) [a]).av,.bcl N.poptimize_rewriter_push 0] (rcv din++rest) (λr' os'=>r'=(pl0 3 n (.mk yo yn yv ym yl ya) [b]).av/\os'=rcv din++rest):=hML
 rw[e1,e2] at hML
 rw[e1]
 rw[Ex.av_mk] at hC
 unfold tyA at hTL hPL
 obtain⟨xd,hxd⟩:∃d,d=ng xl (xL xa):=⟨_,rfl⟩
 obtain⟨yd,hyd⟩:∃d,d=ng yl (xL ya):=⟨_,rfl⟩
 have e3:ng true (pL [a])=.sl [a.ds]:=rfl
 have e4:ng true (pL [b])=.sl [b.ds]:=rfl
 rw[<- hxd,<- hyd,e3,e4] at hML
 rw[<- hxd,e3]
 rw[<- hyd] at hC
 clear hxd hyd e1 e2 e3 e4
 obtain⟨ao,an,ak,ar,axo,axn,axv,axm,axd,adx,ady,ada,adi,a1,a2⟩:=Pl.cut a
 obtain⟨bo,bn,bk',br,bxo,bxn,bxv,bxm,bxd,bdx,bdy,bda,bdi,b1,b2⟩:=Pl.cut b
 obtain⟨fo,fn,fk,fr,fxo,fxn,fxv,fxm,fxd,fdx,fdy,fda,fdi,f1,f2⟩:=Pl.cut q
 rw[a1] at hML ⊢
 rw[b1] at hML hTL hPL
 rw[b2] at hTL
 rw[f2] at hPL ⊢
 clear a1 a2 b1 b2 f1 f2
 have r0:xv.k=xv.k:=rfl
 have r1:xv.s=xv.s:=rfl
 have r2:xm=xm:=rfl
 have r3:yv.s=yv.s:=rfl
 have r4:ym=ym:=rfl
 refine F.poptimize_rewriter_push.goX mixed rfl ?_
 repeat' first|refine st ?_|((with_reducible apply go_i);conv=>whnf)|((with_reducible first|apply k_nc|apply k_cs);(·first|exact hML _|exact hTL _|exact hPL _);(try rintro _ _ ⟨rfl,rfl⟩))|((with_reducible apply k_pr);(·first|exact hML _|exact hTL _|exact hPL _))|refine⟨λ_=>?_,λ_=>?_⟩|fail
 all_goals first|exact⟨rfl,rfl⟩|(exfalso;omega)
theorem C.safe_ok(K:List Kw)(hK:K.length<=4194304)(hKb:∀k∈K,k.ks.length<=4194304)(din:D)(hin:SlD din (eKw K))(g:FuncId)(p q:Pl)(hpb:p.bk<=1048576)(hqb:q.bk<=1048576)(hg:CallSpec Tryz.prog g [.ptr 0 0,p.av] (rcv din) (λr os=>r=q.av/\os=rcv din))
  (h1:(cpF K p).2=0) (h2:(cpF K q).2=0) (h3:(cpF K p).1.ks=(cpF K q).1.ks) (h4:(cpF K p).1.ks.length<=48) :
  CallSpec Tryz.prog N.poptimize_rewriter_safe [.ptr 0 0,p.av,.bcl g 0] (rcv din) (λr os=>r=q.av/\os=rcv din):=by
 have hCp:=C.snapshot_Check K hK hKb din hin p hpb
 have hCq:=C.snapshot_Check K hK hKb din hin q hqb
 have hE:=C.slices_EqualI (cpF K p).1.ks (cpF K q).1.ks (by omega) (by rw[<- h3];omega) (cpF K p).1.d (cpF K q).1.d sld_ng sld_ng
 rw[decide_eq_true h3] at hE
 rw[h1] at hCp
 rw[h2] at hCq
 obtain⟨kp,hkp⟩:∃d,d=(cpF K p).1.d:=⟨_,rfl⟩
 obtain⟨kq,hkq⟩:∃d,d=(cpF K q).1.d:=⟨_,rfl⟩
 rw[<- hkp] at hCp hE
 rw[<- hkq] at hCq hE
 clear hkp hkq h1 h2 h3 h4
 have hgL:=λrest=>rcvK hg (rcv_a _) (λf=>mA_ds f _) rest
 clear hg
 obtain⟨ao,an,ak,ar,axo,axn,axv,axm,axd,adx,ady,ada,adi,a1,a2⟩:=Pl.cut p
 obtain⟨bo,bn,bk',br,bxo,bxn,bxv,bxm,bxd,bdx,bdy,bda,bdi,b1,b2⟩:=Pl.cut q
 rw[a2] at hCp hgL ⊢
 rw[b2] at hCq hgL ⊢
 clear a1 a2 b1 b2
 have r0:axv.s=axv.s:=rfl
 have r1:axm=axm:=rfl
 have r2:bxv.s=bxv.s:=rfl
 have r3:bxm=bxm:=rfl
 refine F.poptimize_rewriter_safe.goX mixed rfl ?_
 repeat' first|refine st ?_|((with_reducible apply go_i);conv=>whnf)|((with_reducible first|apply k_nc|apply k_cs);(·exact hgL _);(try rintro _ _ ⟨rfl,rfl⟩))|((with_reducible apply k_pr);(·exact hgL _))|refine⟨λ_=>?_,λ_=>?_⟩|fail
 all_goals exact⟨rfl,rfl⟩
theorem C.optimize_Push(K:List Kw)(hK:K.length<=4194304)(hKb:∀k∈K,k.ks.length<=4194304)(din:D)(hin:SlD din (eKw K))(p q:Pl)(hpb:p.bk<=1048576)(hqb:q.bk<=1048576)(hg:CallSpec Tryz.prog N.poptimize_rewriter_push [.ptr 0 0,p.av] (rcv din) (λr os=>r=q.av/\os=rcv din))
  (h1:(cpF K p).2=0) (h2:(cpF K q).2=0) (h3:(cpF K p).1.ks=(cpF K q).1.ks) (h4:(cpF K p).1.ks.length<=48):Pure Tryz.prog N.optimize_Push [p.av,.d din] q.av:=by
 have hS:=C.safe_ok K hK hKb din hin _ p q hpb hqb hg h1 h2 h3 h4
 have hm1:∀(ds:List D) n,[AV.ptr 0 0,.agg (ds.map .d),.bcl N.poptimize_rewriter_push 0].map (mG (rn [2] n))=[.ptr 2 0,.agg (ds.map .d),.bcl N.poptimize_rewriter_push 2]:=λds n=>by
  rw[List.map_cons,List.map_cons,List.map_cons,List.map_nil,mG_ds];rfl
 have hSL:=λos (ho:os[2]?=some (AO.cells [.d din]))=>rcvL 2 hS (hm1 p.ds) (λa ha=>by
  simp only[List.mem_cons,List.not_mem_nil,or_false] at ha
  rcases ha with rfl|rfl|rfl
  ·simp[AV.bnd2,AV.bnd1]
  ·exact bnd_ds _ _
  ·simp[AV.bnd2,AV.bnd1]) (λf=>mA_ds f _) os ho
 clear hS hm1 hg
 obtain⟨ao,an,ak,ar,axo,axn,axv,axm,axd,adx,ady,ada,adi,a1,a2⟩:=Pl.cut p
 obtain⟨bo,bn,bk',br,bxo,bxn,bxv,bxm,bxd,bdx,bdy,bda,bdi,b1,b2⟩:=Pl.cut q
 have hSL:∀os:List AO,os[2]?=some (AO.cells [.d din])->CallSpec Tryz.prog N.poptimize_rewriter_safe [.ptr 2 0,ePl ao an ak ar axo axn axv axm axd adx ady ada adi,.bcl N.poptimize_rewriter_push 2] os (λr' os'=>r'=ePl bo bn bk' br bxo bxn bxv bxm bxd bdx bdy bda bdi/\os'=os):=λos ho=>by
  have:=hSL os ho
  rw[a1] at this
  rw[<- b2]
  exact this
 rw[a2,b2]
 clear a1 a2 b1 b2
 have r0:axv.s=axv.s:=rfl
 have r1:axm=axm:=rfl
 have r2:bxv.s=bxv.s:=rfl
 have r3:bxm=bxm:=rfl
 refine F.optimize_Push.go mixed rfl ?_
 repeat' first|refine st ?_|((with_reducible apply go_i);conv=>whnf)|((with_reducible first|apply k_nc|apply k_cs);(·exact hSL _ rfl);(try rintro _ _ ⟨rfl,rfl⟩))|((with_reducible apply k_pr);(·exact hSL _ rfl))|refine⟨λ_=>?_,λ_=>?_⟩|fail
 all_goals rfl
end Go.Proofs
end
section
namespace Go.Proofs
open Go.Bi
theorem C.optimize_copied(l:List Ex)(hl:l.length<=1048576)(hb:∀x∈l,x.bk<=1048576)(d:D)(hd:SlD d (xL l)):Pure Tryz.prog N.optimize_copied [.d d] (.d (ng true (xL (l.map (shf 0))))):=by
 have hSh:=λx hx=>C.expr_Shift x (hb x hx) 0
 have lL:=xL_len l
 have mL:=xL_mem l
 have gL:=λi x=>@xL_get l i x
 obtain⟨es,hes⟩:∃z,z=xL l:=⟨_,rfl⟩
 rw[<- hes] at hd lL mL gL
 clear hes hb
 refine F.optimize_copied.go mixed rfl ?_
 repeat' first|refine st ?_|((with_reducible apply go_i);conv=>whnf)|refine⟨λ_=>?_,λ_=>?_⟩|fail
 refine x_nil 3 7 rfl rfl ?_
 refine x_loop1 mixed Lt.optimize_copied_l0 Lk.optimize_copied_l0 (λ(i:Nat)=>[.arr 0 (xL ((l.take i).map (shf 0))).length,.d (eI i)]) (λi=>[.arr (xL ((l.take i).map (shf 0))) 7 0 (xL ((l.take i).map (shf 0))).isEmpty]) (λi=>i<=l.length) (λi=>l.length-i) 0 rfl rfl rfl rfl (λ_ _=>⟨rfl,rfl⟩) rfl (by omega) ?_
 repeat' first|refine st ?_|((with_reducible apply go_i);conv=>whnf)|refine⟨λ_=>?_,λ_=>?_⟩|fail
 intro i i1
 have hw1:(xL ((l.take i).map (shf 0))).length=i:=by rw[xL_len,List.length_map,List.length_take];omega
 have hwm:=xL_mem ((l.take i).map (shf 0))
 have hbd:((xL ((l.take i).map (shf 0))).length+1)*88<=140737488355328:=by omega
 cases hx:l[i]? with
 |some x=>
  have hlt:=(List.getElem?_eq_some_iff.1 hx).1
  have hilt:(i:Int)<es.length:=by omega
  have hg:=gL i x hx
  have hS:=hSh x (List.mem_of_getElem? hx)
  have ht:xL ((l.take (i+1)).map (shf 0))=xL ((l.take i).map (shf 0))++[(shf 0 x).ds]:=by rw[List.take_add_one,hx];simp[xL]
  obtain⟨A,hA'⟩:∃z,z=xL ((l.take i).map (shf 0)):=⟨_,rfl⟩
  rw[<- hA'] at hw1 hwm hbd ht ⊢
  obtain⟨y,hy⟩:∃y,y=shf 0 x:=⟨_,rfl⟩
  rw[<- hy] at hS ht
  clear hy gL hx hA' hSh
  obtain⟨x1,x2,x3,x4,x5,x6⟩:=x
  obtain⟨y1,y2,y3,y4,y5,y6⟩:=y
  rw[Ex.av_mk,Ex.av_mk] at hS
  rw[Ex.ds_mk] at hg ht
  have hg:es[((i:Nat):Int).toNat]?=some (xds x1 x2 x3 x4 (ng x5 (xL x6))):=hg
  obtain⟨z1,hz1⟩:∃d,d=ng x5 (xL x6):=⟨_,rfl⟩
  obtain⟨z2,hz2⟩:∃d,d=ng y5 (xL y6):=⟨_,rfl⟩
  rw[<- hz1,<- hz2] at hS
  rw[<- hz1] at hg
  rw[<- hz2] at ht
  clear hz1 hz2
  repeat' first|refine st ?_|((with_reducible apply go_i);conv=>whnf)|refine⟨λ_=>?_,λ_=>?_⟩|fail
  exact⟨i+1,by rw[ht];simp,rfl,by rw[ht];simp,by omega,by omega⟩
 |none=>
  have hge:=List.getElem?_eq_none_iff.1 hx
  have hilt:(es.length:Int)<=i:=by omega
  rw[List.take_of_length_le hge] at hw1 hwm hbd ⊢
  obtain⟨A,hA'⟩:∃z,z=xL (l.map (shf 0)):=⟨_,rfl⟩
  rw[<- hA'] at hw1 hwm hbd ⊢
  clear gL hx hA' hSh
  repeat' first|refine st ?_|((with_reducible apply go_i);conv=>whnf)|refine⟨λ_=>?_,λ_=>?_⟩|fail
  all_goals (cases A<;>rfl)
mutual
/-- The scans of a plan. -/
def scP:Pl->List Int
 |.mk o _ ins=>(if o.op=1 then [o.n] else [])++scPs ins
def scPs:List Pl->List Int
 |[]=>[]
 |p::r=>scP p++scPs r
end
theorem scPs_eq:∀l,scPs l=l.flatMap scP
 |[]=>by simp[scPs]
 |e::es=>by simp[scPs,scPs_eq es]
theorem scP_mk(o:Po)(ni:Bool)(ins:List Pl):scP (.mk o ni ins)=(if o.op=1 then [o.n] else [])++ins.flatMap scP:=by rw[scP,scPs_eq]
theorem scPs_le{l:List Pl}(h:∀p∈l,(scP p).length<=p.bk):(l.flatMap scP).length<=bulkLL (pL l):=by
 induction l with
 |nil=>simp
 |cons a l ih=>
  have h1:=h a (by simp)
  have h2:=ih λb hb=>h b (by simp[hb])
  rw[List.flatMap_cons,List.length_append]
  simp only[pL,List.map_cons,bulkLL]
  unfold Pl.bk at h1
  unfold pL at h2
  omega
theorem scP_bk:∀p:Pl,(scP p).length<=p.bk:=by
 refine Pl.ind λo ni ins ih=>?_
 have h1:=scPs_le ih
 have h2:=Pl.bk_mk o ni ins
 rw[scP_mk,List.length_append]
 have:(if o.op=1 then [o.n] else []).length<=1:=by split<;>simp
 omega
theorem C.optimize_Scans:∀p:Pl,p.bk<=1048576->Pure Tryz.prog N.optimize_Scans [p.av] (.d (ng true (eIs (scP p)))):=by
 refine Pl.ind λo ni ins ih hb=>?_
 have hB:=Pl.bd hb
 have hbk:∀i:Nat,((if o.op=1 then [o.n] else [])++(ins.take i).flatMap scP).length<=1048576:=λi=>by
  have h1:=scP_bk (.mk o ni ins)
  rw[scP_mk] at h1
  have h2:((ins.take i).flatMap scP).length<=(ins.flatMap scP).length:=by
   conv=>rhs;rw[<- List.take_append_drop i ins,List.flatMap_append,List.length_append]
   omega
  rw[List.length_append] at h1 ⊢
  omega
 have hq:=scP_mk o ni ins
 obtain⟨q,hqq⟩:∃q,q=scP (.mk o ni ins):=⟨_,rfl⟩
 rw[<- hqq] at hq ⊢
 clear hqq
 obtain⟨xo,xn,xv,xm,xd,hav,_⟩:=Pl.cuto o ni ins
 rw[hav]
 have hdi:SlD (ng ni (pL ins)) (pL ins):=sld_ng
 obtain⟨dk,e1⟩:∃d,d=o.dk:=⟨_,rfl⟩
 obtain⟨dr,e2⟩:∃d,d=o.dr:=⟨_,rfl⟩
 obtain⟨dx,e3⟩:∃d,d=o.dx:=⟨_,rfl⟩
 obtain⟨dy,e4⟩:∃d,d=o.dy:=⟨_,rfl⟩
 obtain⟨da,e5⟩:∃d,d=o.da:=⟨_,rfl⟩
 obtain⟨di,e6⟩:∃d,d=ng ni (pL ins):=⟨_,rfl⟩
 rw[<- e1,<- e2,<- e3,<- e4,<- e5,<- e6]
 rw[<- e6] at hdi
 clear e1 e2 e3 e4 e5 e6 hav
 have l1:=pL_len ins
 have m1:=pL_mem ins
 have g1:=λi p=>@pL_get ins i p
 obtain⟨es,hes⟩:∃z,z=pL ins:=⟨_,rfl⟩
 rw[<- hes] at hdi l1 m1 g1
 clear hes
 have hil:=hB.il
 have hsub:=hB.sub
 clear hB hb
 obtain⟨op,hop⟩:∃x,x=o.op:=⟨_,rfl⟩
 obtain⟨n,hn⟩:∃x,x=o.n:=⟨_,rfl⟩
 rw[<- hop,<- hn] at hq ⊢
 have hbk:∀i:Nat,((if op=1 then [n] else [])++(ins.take i).flatMap scP).length<=1048576:=by rw[hop,hn];exact hbk
 clear hop hn
 obtain⟨F0,hF⟩:∃z,z=if op=1 then [n] else []:=⟨_,rfl⟩
 rw[<- hF] at hq hbk
 by_cases h1:op=1
 ·subst h1
  rw[if_pos rfl] at hF
  subst hF
  refine F.optimize_Scans.go mixed rfl ?_
  repeat' first|refine st ?_|((with_reducible apply go_i);conv=>whnf)|refine⟨λ_=>?_,λ_=>?_⟩|fail
  refine x_loop1 mixed Lt.optimize_Scans_l0 Lk.optimize_Scans_l0 (λ(i:Nat)=>[.arr 2 (eIs ([n]++(ins.take i).flatMap scP)).length,.d (eI i)]) (λi=>[.cells [.d (eI 1),.d (eI n),.d dk,.d dr,.d (eI xo),.d (eI xn),.d (eI xv.k),.d (eI xv.n),.d (.str xv.s),.d (.str xm),.d xd,.d dx,.d dy,.d da,.d di],.arr [[eI n]] 1 0 false,.arr (eIs ([n]++(ins.take i).flatMap scP)) 1 0 false]) (λi=>i<=ins.length) (λi=>ins.length-i) 0 rfl rfl rfl rfl (λ_ _=>⟨rfl,rfl⟩) rfl (by omega) ?_
  repeat' first|refine st ?_|((with_reducible apply go_i);conv=>whnf)|refine⟨λ_=>?_,λ_=>?_⟩|fail
  intro i i1
  have hb1:=hbk i
  have hb2:=hbk (i+1)
  have hwl:=eIs_len ([n]++(ins.take i).flatMap scP)
  have hwm:=eIs_mem ([n]++(ins.take i).flatMap scP)
  cases hx:ins[i]? with
  |some p=>
   have hlt:=(List.getElem?_eq_some_iff.1 hx).1
   have hilt:(i:Int)<es.length:=by omega
   have hg:=g1 i p hx
   have hI:=ih p (List.mem_of_getElem? hx) (hsub p (List.mem_of_getElem? hx))
   have ht0:(ins.take (i+1)).flatMap scP=(ins.take i).flatMap scP++scP p:=by rw[List.take_add_one,hx];simp
   have ht:eIs ([n]++(ins.take (i+1)).flatMap scP)=eIs ([n]++(ins.take i).flatMap scP)++eIs (scP p):=by rw[ht0];simp[eIs]
   rw[ht0] at hb2
   have hsl:=eIs_len (scP p)
   have hsm:=eIs_mem (scP p)
   have hsd:SlD (ng true (eIs (scP p))) (eIs (scP p)):=sld_ng
   obtain⟨A,hA⟩:∃z,z=eIs ([n]++(ins.take i).flatMap scP):=⟨_,rfl⟩
   rw[<- hA] at hwl hwm ht ⊢
   have hb3:A.length+(eIs (scP p)).length<=1048576:=by
    rw[hsl,hwl]
    simp only[List.length_append] at hb2 ⊢
    omega
   obtain⟨op',n',dk',dr',xo',xn',xv',xm',xd',dx',dy',da',di',c1,c2⟩:=Pl.cut p
   have hg:es[((i:Nat):Int).toNat]?=some (ePld op' n' dk' dr' xo' xn' xv' xm' xd' dx' dy' da' di'):=by rw[<- c1];exact hg
   rw[c2] at hI
   obtain⟨B,hB⟩:∃z,z=eIs (scP p):=⟨_,rfl⟩
   rw[<- hB] at hI ht hsm hsd hb3
   obtain⟨sd,hsdd⟩:∃z,z=ng true B:=⟨_,rfl⟩
   rw[<- hsdd] at hI hsd
   have hbd:(A.length+B.length)*8<=140737488355328/\A.length+B.length<=9223372036854775807:=by omega
   clear hsl hsdd hB hA c1 c2 hx g1 ih hbk hb1 hb2 hwl
   rcases hsd with ⟨rfl,rfl⟩|rfl
   ·have hbd0:(A.length+([]:List (List D)).length)*8<=140737488355328:=hbd.1
    repeat' first|refine st ?_|((with_reducible apply go_i);conv=>whnf)|refine⟨λ_=>?_,λ_=>?_⟩|fail
    exact⟨i+1,by rw[ht];simp,rfl,by rw[ht];simp,by omega,by omega⟩
   ·repeat' first|refine st ?_|((with_reducible apply go_i);conv=>whnf)|refine⟨λ_=>?_,λ_=>?_⟩|fail
    exact⟨i+1,by rw[ht];simp,rfl,by rw[ht];simp,by omega,by omega⟩
  |none=>
   have hge:=List.getElem?_eq_none_iff.1 hx
   have hilt:(es.length:Int)<=i:=by omega
   rw[List.take_of_length_le hge] at hwl hwm hb1 ⊢
   rw[hq]
   have hne:ng true (eIs ([n]++ins.flatMap scP))=.sl (eIs ([n]++ins.flatMap scP)):=rfl
   rw[hne]
   obtain⟨A,hA⟩:∃z,z=eIs ([n]++ins.flatMap scP):=⟨_,rfl⟩
   rw[<- hA] at hwl hwm ⊢
   clear hx g1 ih hA hne
   repeat' first|refine st ?_|((with_reducible apply go_i);conv=>whnf)|refine⟨λ_=>?_,λ_=>?_⟩|fail
   all_goals rfl
 ·rw[if_neg h1] at hF
  subst hF
  have hq:q=ins.flatMap scP:=hq
  have hbk:∀i:Nat,((ins.take i).flatMap scP).length<=1048576:=hbk
  refine F.optimize_Scans.go mixed rfl ?_
  repeat' first|refine st ?_|((with_reducible apply go_i);conv=>whnf)|refine⟨λ_=>?_,λ_=>?_⟩|fail
  refine x_nil 3 1 rfl rfl ?_
  refine x_loop1 mixed Lt.optimize_Scans_l0 Lk.optimize_Scans_l0 (λ(i:Nat)=>[.arr 1 (eIs ((ins.take i).flatMap scP)).length,.d (eI i)]) (λi=>[.cells [.d (eI op),.d (eI n),.d dk,.d dr,.d (eI xo),.d (eI xn),.d (eI xv.k),.d (eI xv.n),.d (.str xv.s),.d (.str xm),.d xd,.d dx,.d dy,.d da,.d di],.arr (eIs ((ins.take i).flatMap scP)) 1 0 (eIs ((ins.take i).flatMap scP)).isEmpty]) (λi=>i<=ins.length) (λi=>ins.length-i) 0 rfl rfl rfl rfl (λ_ _=>⟨rfl,rfl⟩) rfl (by omega) ?_
  repeat' first|refine st ?_|((with_reducible apply go_i);conv=>whnf)|refine⟨λ_=>?_,λ_=>?_⟩|fail
  intro i i1
  have hb1:=hbk i
  have hb2:=hbk (i+1)
  have hwl:=eIs_len ((ins.take i).flatMap scP)
  have hwm:=eIs_mem ((ins.take i).flatMap scP)
  cases hx:ins[i]? with
  |some p=>
   have hlt:=(List.getElem?_eq_some_iff.1 hx).1
   have hilt:(i:Int)<es.length:=by omega
   have hg:=g1 i p hx
   have hI:=ih p (List.mem_of_getElem? hx) (hsub p (List.mem_of_getElem? hx))
   have ht0:(ins.take (i+1)).flatMap scP=(ins.take i).flatMap scP++scP p:=by rw[List.take_add_one,hx];simp
   have ht:eIs ((ins.take (i+1)).flatMap scP)=eIs ((ins.take i).flatMap scP)++eIs (scP p):=by rw[ht0];simp[eIs]
   rw[ht0] at hb2
   have hsl:=eIs_len (scP p)
   have hsm:=eIs_mem (scP p)
   have hsd:SlD (ng true (eIs (scP p))) (eIs (scP p)):=sld_ng
   obtain⟨A,hA⟩:∃z,z=eIs ((ins.take i).flatMap scP):=⟨_,rfl⟩
   rw[<- hA] at hwl hwm ht ⊢
   have hb3:A.length+(eIs (scP p)).length<=1048576:=by
    rw[hsl,hwl]
    simp only[List.length_append] at hb2 ⊢
    omega
   obtain⟨op',n',dk',dr',xo',xn',xv',xm',xd',dx',dy',da',di',c1,c2⟩:=Pl.cut p
   have hg:es[((i:Nat):Int).toNat]?=some (ePld op' n' dk' dr' xo' xn' xv' xm' xd' dx' dy' da' di'):=by rw[<- c1];exact hg
   rw[c2] at hI
   obtain⟨B,hB⟩:∃z,z=eIs (scP p):=⟨_,rfl⟩
   rw[<- hB] at hI ht hsm hsd hb3
   obtain⟨sd,hsdd⟩:∃z,z=ng true B:=⟨_,rfl⟩
   rw[<- hsdd] at hI hsd
   have hbd:(A.length+B.length)*8<=140737488355328/\A.length+B.length<=9223372036854775807:=by omega
   clear hsl hsdd hB hA c1 c2 hx g1 ih hbk hb1 hb2 hwl
   rcases hsd with ⟨rfl,rfl⟩|rfl
   ·have hbd0:(A.length+([]:List (List D)).length)*8<=140737488355328:=hbd.1
    repeat' first|refine st ?_|((with_reducible apply go_i);conv=>whnf)|refine⟨λ_=>?_,λ_=>?_⟩|fail
    exact⟨i+1,by rw[ht];simp,rfl,by rw[ht];cases A<;>simp,by omega,by omega⟩
   ·repeat' first|refine st ?_|((with_reducible apply go_i);conv=>whnf)|refine⟨λ_=>?_,λ_=>?_⟩|fail
    exact⟨i+1,by rw[ht];simp,rfl,by rw[ht];cases A<;>cases B<;>rfl,by omega,by omega⟩
  |none=>
   have hge:=List.getElem?_eq_none_iff.1 hx
   have hilt:(es.length:Int)<=i:=by omega
   rw[List.take_of_length_le hge] at hwl hwm hb1 ⊢
   rw[hq]
   obtain⟨A,hA⟩:∃z,z=eIs (ins.flatMap scP):=⟨_,rfl⟩
   rw[<- hA] at hwl hwm ⊢
   clear hx g1 ih hA
   repeat' first|refine st ?_|((with_reducible apply go_i);conv=>whnf)|refine⟨λ_=>?_,λ_=>?_⟩|fail
   all_goals (cases A<;>rfl)
abbrev cstX(v:Vl):Ex:=.mk 1 0 v [] true []
abbrev colX(i:Int):Ex:=.mk 2 i vNull [] true []
abbrev eqX(i n:Int):Ex:=.mk 7 0 vNull [] true [colX i,cstX ⟨1,n,[]⟩]
theorem C.law48_equals(i n:Int):Pure Tryz.prog N.bt_law48_equals [.d (eI i),.d (eI n)] (eqX i n).av:=by
 rw[Ex.av_mk]
 refine F.bt_law48_equals.go mixed rfl ?_
 repeat' first|refine st ?_|((with_reducible apply go_i);conv=>whnf)|refine⟨λ_=>?_,λ_=>?_⟩|fail
 all_goals rfl
theorem C.law48_contains1(x e:Ex)(hx:x.bk<=1048576)(he:e.bk<=1048576)(h:smE x e=true):Pure Tryz.prog N.bt_law48_contains [.d (.sl [x.ds]),e.av] (.d (.bool true)):=by
 have hS:=C.r11_Same x (by omega) e (by omega)
 rw[h] at hS
 clear h hx he
 obtain⟨x1,x2,x3,x4,x5,x6⟩:=x
 obtain⟨y1,y2,y3,y4,y5,y6⟩:=e
 rw[Ex.av_mk,Ex.av_mk] at hS
 rw[Ex.av_mk,Ex.ds_mk]
 obtain⟨z1,hz1⟩:∃d,d=ng x5 (xL x6):=⟨_,rfl⟩
 obtain⟨z2,hz2⟩:∃d,d=ng y5 (xL y6):=⟨_,rfl⟩
 rw[<- hz1,<- hz2] at hS ⊢
 clear hz1 hz2
 refine F.bt_law48_contains.go mixed rfl ?_
 repeat' first|refine st ?_|((with_reducible apply go_i);conv=>whnf)|refine⟨λ_=>?_,λ_=>?_⟩|fail
 refine x_rounds 1 (x_round mixed ?_)
 repeat' first|refine st ?_|((with_reducible apply go_i);conv=>whnf)|refine⟨λ_=>?_,λ_=>?_⟩|fail
 all_goals rfl
theorem C.filters_scan(n input:Int)(pred:Ex):Pure Tryz.prog N.optimize_filters [(pl0 1 n pred []).av,.d (eI input)] (.tup [.d .nil,.d (.bool (decide (n=input))),.d (.bool (decide (n=input)))]):=by
 obtain⟨xo,xn,xv,xm,xl,xa⟩:=pred
 rw[pl0_av]
 obtain⟨xd,hxd⟩:∃d,d=ng xl (xL xa):=⟨_,rfl⟩
 rw[<- hxd,show ng true (pL [])=.nil from rfl]
 clear hxd
 refine F.optimize_filters.go mixed rfl ?_
 repeat' first|refine st ?_|((with_reducible apply go_i);conv=>whnf)|refine⟨λ_=>?_,λ_=>?_⟩|fail
 refine x_rounds 1 (x_round mixed ?_)
 repeat' first|refine st ?_|((with_reducible apply go_i);conv=>whnf)|refine⟨λ_=>?_,λ_=>?_⟩|fail
 all_goals rfl
theorem C.filters_filter(n input:Int)(pred:Ex)(x:Pl)(b:Bool)(hx:Pure Tryz.prog N.optimize_filters [x.av,.d (eI input)] (.tup [.d .nil,.d (.bool b),.d (.bool b)])) :
  Pure Tryz.prog N.optimize_filters [(pl0 3 n pred [x]).av,.d (eI input)] (.tup [.d (if b then .sl [pred.ds] else .nil),.d (.bool b),.d (.bool b)]):=by
 obtain⟨xo,xn,xv,xm,xl,xa⟩:=pred
 rw[pl0_av,Ex.ds_mk]
 obtain⟨xd,hxd⟩:∃d,d=ng xl (xL xa):=⟨_,rfl⟩
 rw[<- hxd,show ng true (pL [x])=.sl [x.ds] from rfl]
 clear hxd
 obtain⟨ao,an,ak,ar,axo,axn,axv,axm,axd,adx,ady,ada,adi,a1,a2⟩:=Pl.cut x
 rw[a2] at hx
 rw[a1]
 clear a1 a2
 cases b with
 |true=>
  refine F.optimize_filters.go mixed rfl ?_
  repeat' first|refine st ?_|((with_reducible apply go_i);conv=>whnf)|refine⟨λ_=>?_,λ_=>?_⟩|fail
  refine x_rounds 1 (x_round mixed ?_)
  repeat' first|refine st ?_|((with_reducible apply go_i);conv=>whnf)|refine⟨λ_=>?_,λ_=>?_⟩|fail
  all_goals rfl
 |false=>
  refine F.optimize_filters.go mixed rfl ?_
  repeat' first|refine st ?_|((with_reducible apply go_i);conv=>whnf)|refine⟨λ_=>?_,λ_=>?_⟩|fail
  refine x_rounds 2 (x_round mixed ?_)
  repeat' first|refine st ?_|((with_reducible apply go_i);conv=>whnf)|refine⟨λ_=>?_,λ_=>?_⟩|fail
  refine x_round mixed ?_
  repeat' first|refine st ?_|((with_reducible apply go_i);conv=>whnf)|refine⟨λ_=>?_,λ_=>?_⟩|fail
  all_goals rfl
theorem C.filters_join(n input:Int)(pred:Ex)(x y:Pl)(b:Bool)(dx dy:D)(hx:Pure Tryz.prog N.optimize_filters [x.av,.d (eI input)] (.tup [.d dx,.d (.bool b),.d (.bool b)]))(hy:b=false->Pure Tryz.prog N.optimize_filters [y.av,.d (eI input)] (.tup [.d dy,.d (.bool true),.d (.bool true)])) :
  Pure Tryz.prog N.optimize_filters [(pl0 5 n pred [x,y]).av,.d (eI input)] (.tup [.d (if b then dx else dy),.d (.bool true),.d (.bool false)]):=by
 obtain⟨xo,xn,xv,xm,xl,xa⟩:=pred
 rw[pl0_av]
 obtain⟨xd,hxd⟩:∃d,d=ng xl (xL xa):=⟨_,rfl⟩
 rw[<- hxd,show ng true (pL [x,y])=.sl [x.ds,y.ds] from rfl]
 clear hxd
 obtain⟨ao,an,ak,ar,axo,axn,axv,axm,axd,adx,ady,ada,adi,a1,a2⟩:=Pl.cut x
 obtain⟨bo,bn,bk',br,bxo,bxn,bxv,bxm,bxd,bdx,bdy,bda,bdi,b1,b2⟩:=Pl.cut y
 rw[a2] at hx
 rw[a1,b1]
 rw[b2] at hy
 clear a1 a2 b1 b2
 cases b with
 |true=>
  clear hy
  refine F.optimize_filters.go mixed rfl ?_
  repeat' first|refine st ?_|((with_reducible apply go_i);conv=>whnf)|refine⟨λ_=>?_,λ_=>?_⟩|fail
  refine x_rounds 1 (x_round mixed ?_)
  repeat' first|refine st ?_|((with_reducible apply go_i);conv=>whnf)|refine⟨λ_=>?_,λ_=>?_⟩|fail
  all_goals rfl
 |false=>
  have hy:=hy rfl
  refine F.optimize_filters.go mixed rfl ?_
  repeat' first|refine st ?_|((with_reducible apply go_i);conv=>whnf)|refine⟨λ_=>?_,λ_=>?_⟩|fail
  refine x_rounds 2 (x_round mixed ?_)
  repeat' first|refine st ?_|((with_reducible apply go_i);conv=>whnf)|refine⟨λ_=>?_,λ_=>?_⟩|fail
  refine x_round mixed ?_
  repeat' first|refine st ?_|((with_reducible apply go_i);conv=>whnf)|refine⟨λ_=>?_,λ_=>?_⟩|fail
  all_goals rfl
end Go.Proofs
end
section
namespace Go.Proofs
open Go.Bi
def szA(rs:List Int)(ins:List Pl)(i:Nat):Int:=((ins[i]?).map (szP rs)).getD 0
theorem C.Size_c1(rs:List Int)(dr':D)(op n:Int)(dk dr:D)(xo xn:Int)(xv:Vl)(xm:List UInt8)(xd dx dy da di:D)(ins:List Pl)(hil:ins.length<=1048576)(hdi:SlD di (pL ins))(i:Nat)(hi:i<=1)
  (ih:∀p∈ins,Pure Tryz.prog N.optimize_Size [p.av,.d dr'] (.d (eI (szP rs p)))) :
  CallSpec Tryz.prog N.optimize_Size_c1 [.d (eI i),.ptr 0 0,.ptr 1 0] [.cells [.d (eI op),.d (eI n),.d dk,.d dr,.d (eI xo),.d (eI xn),.d (eI xv.k),.d (eI xv.n),.d (.str xv.s),.d (.str xm),.d xd,.d dx,.d dy,.d da,.d di],.cells [.d dr']]
   (λr os=>r=.d (eI (szA rs ins i))/\os=[.cells [.d (eI op),.d (eI n),.d dk,.d dr,.d (eI xo),.d (eI xn),.d (eI xv.k),.d (eI xv.n),.d (.str xv.s),.d (.str xm),.d xd,.d dx,.d dy,.d da,.d di],.cells [.d dr']]):=by
 have l1:=pL_len ins
 have m1:=pL_mem ins
 have g1:=λi p=>@pL_get ins i p
 obtain⟨es,hes⟩:∃z,z=pL ins:=⟨_,rfl⟩
 rw[<- hes] at hdi l1 m1 g1
 clear hes
 obtain⟨q,hq⟩:∃q,q=szA rs ins i:=⟨_,rfl⟩
 rw[<- hq]
 unfold szA at hq
 have r0:xv.k=xv.k:=rfl
 have r1:xv.s=xv.s:=rfl
 have r2:xm=xm:=rfl
 cases hx:ins[i]? with
 |none=>
  rw[hx] at hq
  have hge:=List.getElem?_eq_none_iff.1 hx
  have h3:(es.length:Int)<=i:=by omega
  have hq:q=0:=hq
  subst hq
  clear g1 ih hx
  refine F.optimize_Size_c1.goX mixed rfl ?_
  repeat' first|refine st ?_|((with_reducible apply go_i);conv=>whnf)|refine⟨λ_=>?_,λ_=>?_⟩|fail
  all_goals exact⟨rfl,rfl⟩
 |some p=>
  rw[hx] at hq
  have hlt:=(List.getElem?_eq_some_iff.1 hx).1
  have h3:(i:Int)<es.length:=by omega
  have hq:q=szP rs p:=hq
  have hP:=ih p (List.mem_of_getElem? hx)
  rw[<- hq] at hP
  have hg:=g1 i p hx
  obtain⟨op',n',dk',dr0,xo',xn',xv',xm',xd',dx',dy',da',di',c1,c2⟩:=Pl.cut p
  have hg:es[((i:Nat):Int).toNat]?=some (ePld op' n' dk' dr0 xo' xn' xv' xm' xd' dx' dy' da' di'):=by rw[<- c1];exact hg
  rw[c2] at hP
  clear g1 ih hx hq c1 c2
  refine F.optimize_Size_c1.goX mixed rfl ?_
  repeat' first|refine st ?_|((with_reducible apply go_i);conv=>whnf)|refine⟨λ_=>?_,λ_=>?_⟩|fail
  all_goals exact⟨rfl,rfl⟩
theorem C.optimize_Size(rs:List Int)(hrs:rs.length<=1048576)(dr':D)(hdr:SlD dr' (eIs rs)):∀p:Pl,p.bk<=1048576->Pure Tryz.prog N.optimize_Size [p.av,.d dr'] (.d (eI (szP rs p))):=by
 refine Pl.ind λo ni ins ih hb=>?_
 have hB:=Pl.bd hb
 obtain⟨xo,xn,xv,xm,xd,hav,_⟩:=Pl.cuto o ni ins
 rw[hav]
 have hdi:SlD (ng ni (pL ins)) (pL ins):=sld_ng
 have hdy:SlD o.dy (eIs o.keys):=sld_ng
 have hdw:SlD o.dr (eRs o.rows):=sld_ng
 have kl:=eIs_len o.keys
 have wl:=eRs_len o.rows
 have hk1:=hB.keys
 have hw1:=hB.nr
 have hq:szP rs (.mk o ni ins)=szF rs o ((szPs rs ins).getD 0 0) ((szPs rs ins).getD 1 0):=rfl
 rw[szPs_getD,szPs_getD] at hq
 obtain⟨q,hqq⟩:∃q,q=szP rs (.mk o ni ins):=⟨_,rfl⟩
 rw[<- hqq] at hq ⊢
 clear hqq
 have hil:=hB.il
 have hC0:=λdk dr dx dy da=>C.Size_c1 rs dr' o.op o.n dk dr xo xn xv xm xd dx dy da (ng ni (pL ins)) ins hil hdi 0 (by omega) λp hp=>ih p hp (hB.sub p hp)
 have hC1:=λdk dr dx dy da=>C.Size_c1 rs dr' o.op o.n dk dr xo xn xv xm xd dx dy da (ng ni (pL ins)) ins hil hdi 1 (by omega) λp hp=>ih p hp (hB.sub p hp)
 have key:∀i:Nat,0<=szA rs ins i/\szA rs ins i<=mostN:=λi=>by
  unfold szA
  cases hx:ins[i]? with
  |none=>exact⟨Int.le_refl 0,show(0:Int)<=mostN by decide⟩
  |some p=>exact szP_bd rs p (hB.sub p (List.mem_of_getElem? hx))
 obtain⟨a1,a2⟩:=key 0
 obtain⟨b1,b2⟩:=key 1
 clear key ih
 have hq:q=szF rs o (szA rs ins 0) (szA rs ins 1):=hq
 obtain⟨a,ha⟩:∃a,a=szA rs ins 0:=⟨_,rfl⟩
 obtain⟨b,hbb⟩:∃a,a=szA rs ins 1:=⟨_,rfl⟩
 rw[<- ha] at hq a1 a2 hC0
 rw[<- hbb] at hq b1 b2 hC1
 clear ha hbb
 obtain⟨op,n,nk,ki,nr,rows,pred,nx,xs,ny,keys,na,aggs⟩:=o
 dsimp only at hdy hdw kl wl hk1 hw1 hq
 obtain⟨dk,e1⟩:∃d,d=ng nk (eIs ki):=⟨_,rfl⟩
 obtain⟨dr,e2⟩:∃d,d=ng nr (eRs rows):=⟨_,rfl⟩
 obtain⟨dx,e3⟩:∃d,d=ng nx (xL xs):=⟨_,rfl⟩
 obtain⟨dy,e4⟩:∃d,d=ng ny (eIs keys):=⟨_,rfl⟩
 obtain⟨da,e5⟩:∃d,d=ng na (eAs aggs):=⟨_,rfl⟩
 obtain⟨di,e6⟩:∃d,d=ng ni (pL ins):=⟨_,rfl⟩
 show Bi.Pure Tryz.prog N.optimize_Size [ePl op n (ng nk (eIs ki)) (ng nr (eRs rows)) xo xn xv xm xd (ng nx (xL xs)) (ng ny (eIs keys)) (ng na (eAs aggs)) (ng ni (pL ins)),.d dr'] (.d (eI q))
 rw[<- e6] at hC0 hC1
 have hC0:=hC0 dk dr dx dy da
 have hC1:=hC1 dk dr dx dy da
 dsimp only at hC0 hC1
 rw[<- e1,<- e2,<- e3,<- e4,<- e5,<- e6]
 have hdy:SlD dy (eIs keys):=by rw[e4];exact hdy
 have hdw:SlD dr (eRs rows):=by rw[e2];exact hdw
 clear e1 e2 e3 e4 e5 e6 hav hB hb hdi
 have r1:=eIs_len rs
 have rm:=eIs_mem rs
 have rg:=λi k=>@eIs_get rs i k
 obtain⟨rr,hrr⟩:∃z,z=eIs rs:=⟨_,rfl⟩
 rw[<- hrr] at hdr r1 rm rg
 obtain⟨ww,hww⟩:∃z,z=eRs rows:=⟨_,rfl⟩
 rw[<- hww] at hdw wl
 obtain⟨kk,hkk⟩:∃z,z=eIs keys:=⟨_,rfl⟩
 rw[<- hkk] at hdy kl
 have wm:∀e∈ww,e.length=1:=by rw[hww];exact eRs_mem rows
 have km:∀e∈kk,e.length=1:=by rw[hkk];exact eIs_mem keys
 clear hrr hww hkk
 have hT:=C.optimize_product a b a1 b1
 have hT2:=C.optimize_product a (max b 1) a1 (by omega)
 unfold mostN at a2 b2
 unfold szF at hq
 dsimp only at hq
 have hcase:(op=1/\0<=n/\n<rr.length/\∃k:Int,rr[n.toNat]?=some [eI k]/\q=max 0 (min k 1099511627776))\/(op=1/\n<0/\q=0)\/(op=1/\0<=n/\(rr.length:Int)<=n/\q=0)\/(op=2/\q=min (ww.length:Int) 1099511627776)\/(op=3/\q=a)\/(op=4/\q=a)\/(op=10/\q=a)\/(op=8/\q=a)\/(op=5/\q=tmN a b)\/(op=6/\q=tmN a (max b 1))\/(op=7/\q=min (a+b) 1099511627776)\/(op=9/\q=min a b)\/(op=11/\(kk.length:Int)=0/\q=1)\/(op=11/\¬(kk.length:Int)=0/\q=a)\/
   ((op≠1/\op≠2/\op≠3/\op≠4/\op≠5/\op≠6/\op≠7/\op≠8/\op≠9/\op≠10/\op≠11)/\q=0):=by
  by_cases o1:op=1
  ·subst o1
   rw[if_pos rfl] at hq
   by_cases h1:0<=n/\n<rs.length
   ·rw[if_pos h1] at hq
    obtain⟨k,hk⟩:∃k,rs[n.toNat]?=some k:=⟨_,List.getElem?_eq_getElem (by omega)⟩
    rw[List.getD_eq_getElem?_getD,hk] at hq
    have hq:q=min (max k 0) 1099511627776:=hq
    exact .inl ⟨rfl,h1.1,by omega,k,rg _ _ hk,by omega⟩
   ·rw[if_neg h1] at hq
    by_cases h2:n<0
    ·exact .inr (.inl ⟨rfl,h2,hq⟩)
    ·exact .inr (.inr (.inl ⟨rfl,by omega,by omega,hq⟩))
  by_cases o2:op=2
  ·subst o2
   have hq:q=(rows.length:Int):=by simpa using hq
   exact .inr (.inr (.inr (.inl ⟨rfl,by omega⟩)))
  by_cases o3:op=3
  ·subst o3;simp at hq;simp[hq]
  by_cases o4:op=4
  ·subst o4;simp at hq;simp[hq]
  by_cases o10:op=10
  ·subst o10;simp at hq;simp[hq]
  by_cases o8:op=8
  ·subst o8;simp at hq;simp[hq]
  by_cases o5:op=5
  ·subst o5;simp at hq;simp[hq]
  by_cases o6:op=6
  ·subst o6;simp at hq;simp[hq]
  by_cases o7:op=7
  ·subst o7;simp at hq;simp[hq]
  by_cases o9:op=9
  ·subst o9;simp at hq;simp[hq]
  by_cases o11:op=11
  ·subst o11
   simp at hq
   by_cases h0:keys=[]
   ·rw[if_pos h0] at hq
    have hk0:(kk.length:Int)=0:=by rw[kl,h0];rfl
    simp[hq,hk0]
   ·rw[if_neg h0] at hq
    have hk0:¬(kk.length:Int)=0:=by
     have:keys.length≠0:=λh=>h0 (List.length_eq_zero_iff.1 h)
     omega
    have hk1:¬kk=[]:=λh=>hk0 (by rw[h];rfl)
    simp[hq,hk1]
  ·simp[o1,o2,o3,o4,o5,o6,o7,o8,o9,o10,o11] at hq
   simp[o1,o2,o3,o4,o5,o6,o7,o8,o9,o10,o11,hq]
 clear hq rg
 rcases hcase with ⟨rfl,z1,z2,k,z3,rfl⟩|⟨rfl,z1,rfl⟩|⟨rfl,z1,z2,rfl⟩|⟨rfl,rfl⟩|⟨rfl,rfl⟩|⟨rfl,rfl⟩|⟨rfl,rfl⟩|⟨rfl,rfl⟩|⟨rfl,rfl⟩|⟨rfl,rfl⟩|⟨rfl,rfl⟩|⟨rfl,rfl⟩|⟨rfl,z1,rfl⟩|⟨rfl,z1,rfl⟩|⟨⟨o1,o2,o3,o4,o5,o6,o7,o8,o9,o10,o11⟩,rfl⟩
 all_goals refine F.optimize_Size.go mixed rfl ?_
 all_goals repeat' first|refine st ?_|((with_reducible apply go_i);conv=>whnf)|((with_reducible first|apply k_nc|apply k_cs);(·first|exact hC0|exact hC1);(try rintro _ _ ⟨rfl,rfl⟩))|((with_reducible apply k_pr);(·first|exact hC0|exact hC1))|refine⟨λ_=>?_,λ_=>?_⟩|fail
 all_goals rfl
end Go.Proofs
end
section
namespace Go.Proofs
open Go.Bi
theorem C.Filters2(q:Pl)(hq:q.bk<=1048576)(input s0 s1:Int)(hs:scP q=[s0,s1])(hc:(s0=input/\s1≠input)\/(s0≠input/\s1=input))(x:Ex)(hxb:x.bk<=1048576)(b1 b2:Bool)(hf:Pure Tryz.prog N.optimize_filters [q.av,.d (eI input)] (.tup [.d (.sl [x.ds]),.d (.bool b1),.d (.bool b2)])) :
  Pure Tryz.prog N.optimize_Filters [q.av,.d (eI input)] (.d (.sl [(shf 0 x).ds])):=by
 have hS:=C.optimize_Scans q hq
 rw[hs,show ng true (eIs [s0,s1])=.sl [[eI s0],[eI s1]] from rfl] at hS
 have hC:=C.optimize_copied [x] (by simp) (λy hy=>by rw[List.mem_singleton.1 hy];exact hxb) (.sl [x.ds]) (.inr rfl)
 rw[show ng true (xL ([x].map (shf 0)))=.sl [(shf 0 x).ds] from rfl] at hC
 clear hs hxb
 obtain⟨d1,hd1⟩:∃d,d=D.sl [x.ds]:=⟨_,rfl⟩
 obtain⟨d2,hd2⟩:∃d,d=D.sl [(shf 0 x).ds]:=⟨_,rfl⟩
 rw[<- hd1] at hf hC
 rw[<- hd2] at hC ⊢
 clear hd1 hd2
 obtain⟨ao,an,ak,ar,axo,axn,axv,axm,axd,adx,ady,ada,adi,a1,a2⟩:=Pl.cut q
 rw[a2] at hS hf ⊢
 clear a1 a2
 rcases hc with ⟨rfl,h⟩|⟨h,rfl⟩
 ·refine F.optimize_Filters.go mixed rfl ?_
  repeat' first|refine st ?_|((with_reducible apply go_i);conv=>whnf)|refine⟨λ_=>?_,λ_=>?_⟩|fail
  refine x_rounds 3 (x_round mixed ?_)
  repeat' first|refine st ?_|((with_reducible apply go_i);conv=>whnf)|refine⟨λ_=>?_,λ_=>?_⟩|fail
  refine x_round mixed ?_
  repeat' first|refine st ?_|((with_reducible apply go_i);conv=>whnf)|refine⟨λ_=>?_,λ_=>?_⟩|fail
  refine x_round mixed ?_
  repeat' first|refine st ?_|((with_reducible apply go_i);conv=>whnf)|refine⟨λ_=>?_,λ_=>?_⟩|fail
  all_goals rfl
 ·refine F.optimize_Filters.go mixed rfl ?_
  repeat' first|refine st ?_|((with_reducible apply go_i);conv=>whnf)|refine⟨λ_=>?_,λ_=>?_⟩|fail
  refine x_rounds 3 (x_round mixed ?_)
  repeat' first|refine st ?_|((with_reducible apply go_i);conv=>whnf)|refine⟨λ_=>?_,λ_=>?_⟩|fail
  refine x_round mixed ?_
  repeat' first|refine st ?_|((with_reducible apply go_i);conv=>whnf)|refine⟨λ_=>?_,λ_=>?_⟩|fail
  refine x_round mixed ?_
  repeat' first|refine st ?_|((with_reducible apply go_i);conv=>whnf)|refine⟨λ_=>?_,λ_=>?_⟩|fail
  all_goals rfl
abbrev yesX:Ex:=cstX ⟨3,1,[]⟩
abbrev zX:Ex:=.mk 0 0 vNull [] true []
abbrev scn(i:Int):Pl:=pl0 1 i zX []
abbrev joinP:Pl:=pl0 5 0 yesX [scn 0,scn 1]
abbrev andX:Ex:=.mk 5 0 vNull [] true [eqX 0 1,eqX 2 2]
abbrev pA:Pl:=pl0 3 0 andX [joinP]
abbrev fl0:Pl:=pl0 3 0 (eqX 0 1) [scn 0]
abbrev fl1:Pl:=pl0 3 0 (eqX 0 2) [scn 1]
abbrev qA:Pl:=pl0 5 0 yesX [fl0,fl1]
abbrev leftP:Pl:=pl0 6 0 yesX [scn 0,scn 1]
abbrev K2:List Kw:=[⟨false,[1,1]⟩,⟨false,[1,1]⟩]
theorem eqX_ds(i n:Int):(eqX i n).ds=[eI 7,eI 0,eI 0,eI 0,.str [],.str [],.sl [[eI 2,eI i,eI 0,eI 0,.str [],.str [],.nil],[eI 1,eI 0,eI 1,eI n,.str [],.str [],.nil]]]:=by
 rw[Ex.ds_mk];rfl
theorem eqX_av(i n:Int):(eqX i n).av=eX 7 0 vNull [] (.sl [[eI 2,eI i,eI 0,eI 0,.str [],.str [],.nil],[eI 1,eI 0,eI 1,eI n,.str [],.str [],.nil]]):=by
 rw[Ex.av_mk];rfl
theorem scn_ds(i:Int):(scn i).ds=ePld 1 i .nil .nil 0 0 vNull [] .nil .nil .nil .nil .nil:=by
 rw[pl0_ds];rfl
theorem join_ds:joinP.ds=ePld 5 0 .nil .nil 1 0 ⟨3,1,[]⟩ [] .nil .nil .nil .nil (.sl [(scn 0).ds,(scn 1).ds]):=by
 rw[pl0_ds];rfl
theorem pA_av:pA.av=ePl 3 0 .nil .nil 5 0 vNull [] (.sl [(eqX 0 1).ds,(eqX 2 2).ds]) .nil .nil .nil (.sl [joinP.ds]):=by
 rw[pl0_av];rfl
theorem left_av:leftP.av=ePl 6 0 .nil .nil 1 0 ⟨3,1,[]⟩ [] .nil .nil .nil .nil (.sl [(scn 0).ds,(scn 1).ds]):=by
 rw[pl0_av];rfl
theorem qA_av:qA.av=ePl 5 0 .nil .nil 1 0 ⟨3,1,[]⟩ [] .nil .nil .nil .nil (.sl [fl0.ds,fl1.ds]):=by
 rw[pl0_av];rfl
theorem shf_eqX(k i n:Int):shf k (eqX i n)=eqX (w64 (i+k)) n:=rfl
theorem eqX_bk(i n:Int):(eqX i n).bk<=100:=by
 rw[Ex.bk,eqX_ds];simp[bulkL,bulkD,bulkLL]
theorem cols_eqX(i n:Int):cols (eqX i n)=[i]:=by
 have:rawC (eqX i n)=[i]:=rfl
 unfold cols
 rw[this]
 simp[srt,Lib.compact]
 rfl
theorem cls_eqX(m i n:Int):cls m (eqX i n)=if i<m then 0 else 1:=by
 unfold cls
 rw[cols_eqX]
 show(if i<m then 0 else if m<=i then 1 else 2)=_
 by_cases h:i<m
 ·rw[if_pos h,if_pos h]
 ·rw[if_neg h,if_neg h,if_pos (by omega)]
theorem w0:w64 (0+0)=0:=by decide
theorem w2:w64 (2+0)=2:=by decide
theorem wm:w64 (2+(0-((2:Nat):Int)))=0:=by decide
theorem push_l:(cj (shf 0 andX)).map (shf 0)=[eqX 0 1,eqX 2 2]:=by
 have h1:shf 0 andX=.mk 5 0 vNull [] true [eqX 0 1,eqX 2 2]:=by
  show Ex.mk 5 0 vNull [] true [shf 0 (eqX 0 1),shf 0 (eqX 2 2)]=_
  rw[shf_eqX,shf_eqX,w0,w2]
 have h2:cj (.mk 5 0 vNull [] true [eqX 0 1,eqX 2 2])=[eqX 0 1,eqX 2 2]:=rfl
 rw[h1,h2,List.map_cons,List.map_cons,List.map_nil,shf_eqX,shf_eqX,w0,w2]
theorem cjl_l:cjl [eqX 0 1,eqX 2 2]=[eqX 0 1,eqX 2 2]:=by
 unfold cjl
 rw[List.map_cons,List.map_cons,List.map_nil,shf_eqX,shf_eqX,w0,w2]
 have h2:cj (allX false [eqX 0 1,eqX 2 2])=[eqX 0 1,eqX 2 2]:=rfl
 rw[h2,List.map_cons,List.map_cons,List.map_nil,shf_eqX,shf_eqX,w0,w2]
theorem sel0:sel ((2:Nat):Int) 0 [eqX 0 1,eqX 2 2]=[eqX 0 1]:=by
 unfold sel
 simp[cls_eqX]
theorem sel1:sel ((2:Nat):Int) 1 [eqX 0 1,eqX 2 2]=[eqX 2 2]:=by
 unfold sel
 simp[cls_eqX]
theorem sel2:sel ((2:Nat):Int) 2 [eqX 0 1,eqX 2 2]=[]:=by
 unfold sel
 simp[cls_eqX]
theorem fl_1(p:Pl)(n:Int):flP p [eqX 0 n]=pl0 3 0 (eqX 0 n) [p]:=by
 show pl0 3 0 (allX false [shf 0 (eqX 0 n)]) [p]=_
 rw[shf_eqX,w0];rfl
theorem pA_bk:pA.bk<=1000:=by decide
theorem qA_bk:qA.bk<=1000:=by decide
theorem join_bk:joinP.bk<=1000:=by decide
theorem scn_bk0:(scn 0).bk<=1000:=by decide
theorem scn_bk1:(scn 1).bk<=1000:=by decide
theorem left_bk:leftP.bk<=1000:=by decide
theorem yes_bk:yesX.bk<=1000:=by decide
theorem z_bk:zX.bk<=1000:=by decide
theorem and_bk:andX.bk<=1000:=by decide
theorem and_bk2:(shf 0 andX).bk<=1000:=by decide
theorem all_bk:(allX false ([eqX 0 1,eqX 2 2].map (shf 0))).bk<=1000:=by decide
theorem kA:(cpF K2 pA).2=0/\(cpF K2 pA).1.ks=[1,1,1,1]:=by decide
theorem kQ:(cpF K2 qA).2=0/\(cpF K2 qA).1.ks=[1,1,1,1]:=by decide
theorem kS:(cpF K2 (scn 0)).1.ks=[1,1]:=by decide
theorem scA:scP pA=[0,1]:=by decide
theorem scQ:scP qA=[0,1]:=by decide
theorem szL:szP [3,0] leftP=3:=by decide
theorem eqs_bk(l:List Ex)(h:∀x∈l,∃i n,x=eqX i n):∀x∈l,x.bk<=1048576:=λx hx=>by
 obtain⟨i,n,rfl⟩:=h x hx
 have:=eqX_bk i n
 omega
theorem K2b:∀k∈K2,k.ks.length<=4194304:=by
 intro k hk
 simp only[List.mem_cons,List.not_mem_nil,or_false] at hk
 rcases hk with rfl|rfl<;>decide
theorem place_q(din:D)(hin:SlD din (eKw K2)):CallSpec Tryz.prog N.poptimize_rewriter_place [.ptr 0 0,tyA joinP (cpF K2 joinP).1.d,.d (nsl (xL ((cj (shf 0 andX)).map (shf 0))))] (rcv din) (λr os=>r=qA.av/\os=rcv din):=by
 rw[push_l]
 have hb1:∀x∈[eqX 0 1],x.bk<=1048576:=eqs_bk _ λx hx=>⟨0,1,List.mem_singleton.1 hx⟩
 have hb2:∀x∈[eqX 0 2],x.bk<=1048576:=eqs_bk _ λx hx=>⟨0,2,List.mem_singleton.1 hx⟩
 have hb3:∀x∈[eqX 0 1,eqX 2 2],x.bk<=1048576:=eqs_bk _ λx hx=>by
  simp only[List.mem_cons,List.not_mem_nil,or_false] at hx
  rcases hx with rfl|rfl
  ·exact⟨0,1,rfl⟩
  ·exact⟨2,2,rfl⟩
 have hA:=C.place_leaf din (po0 1 0 zX) true [] ⟨by decide,by decide,by decide⟩ (cpF K2 (scn 0)).1.d [eqX 0 1] hb1 (by decide) (nsl (xL [eqX 0 1])) (by rw[nsl_ng];exact sld_ng)
 have hB:=C.place_leaf din (po0 1 1 zX) true [] ⟨by decide,by decide,by decide⟩ (cpF K2 (scn 1)).1.d [eqX 0 2] hb2 (by decide) (ng true (xL [eqX 0 2])) sld_ng
 rw[fl_1] at hA hB
 have hsh:[eqX 2 2].map (shf (0-((2:Nat):Int)))=[eqX 0 2]:=by
  rw[List.map_cons,List.map_nil,shf_eqX,wm]
 have h:=C.place_join K2 (by decide) K2b din hin 0 yesX (scn 0) (scn 1) (Nat.le_trans scn_bk0 (by decide)) (Nat.le_trans scn_bk1 (by decide)) (cpF K2 joinP).1.d [eqX 0 1,eqX 2 2] hb3 (by decide) (nsl (xL [eqX 0 1,eqX 2 2])) (by rw[nsl_ng];exact sld_ng)
  (Nat.le_trans all_bk (by decide)) 2 (by rw[kS];rfl) (by decide) (by rw[cjl_l];exact hb3) (by rw[cjl_l];decide) fl0 fl1 (by rw[cjl_l,sel0];exact hA) (by rw[cjl_l,sel1,hsh];exact hB)
 rw[cjl_l,sel2] at h
 exact h
theorem push_s(din:D)(i:Int):CallSpec Tryz.prog N.poptimize_rewriter_push [.ptr 0 0,(scn i).av] (rcv din) (λr os=>r=(scn i).av/\os=rcv din):=
 C.push_o din (λx=>x) 1 i zX [] (by decide) (Nat.le_trans z_bk (by decide)) (by decide) λx hx=>by cases hx
theorem push_j(din:D):CallSpec Tryz.prog N.poptimize_rewriter_push [.ptr 0 0,joinP.av] (rcv din) (λr os=>r=joinP.av/\os=rcv din):=
 C.push_o din (λx=>x) 5 0 yesX [scn 0,scn 1] (by decide) (Nat.le_trans yes_bk (by decide)) (by decide) λx hx=>by
  simp only[List.mem_cons,List.not_mem_nil,or_false] at hx
  rcases hx with rfl|rfl<;>exact push_s din _
theorem push_A(din:D)(hin:SlD din (eKw K2)):CallSpec Tryz.prog N.poptimize_rewriter_push [.ptr 0 0,pA.av] (rcv din) (λr os=>r=qA.av/\os=rcv din):=
 C.push_f K2 (by decide) K2b din hin 0 andX joinP joinP qA (Nat.le_trans and_bk (by decide)) (Nat.le_trans and_bk2 (by decide)) (Nat.le_trans join_bk (by decide)) (push_j din) (place_q din hin)
theorem C.Push_A:Pure Tryz.prog N.optimize_Push [pA.av,.d (.sl (eKw K2))] qA.av:=
 C.optimize_Push K2 (by decide) K2b (.sl (eKw K2)) (.inr rfl) pA qA (Nat.le_trans pA_bk (by decide)) (Nat.le_trans qA_bk (by decide)) (push_A _ (.inr rfl)) kA.1 kQ.1 (kA.2.trans kQ.2.symm) (by rw[kA.2];decide)
theorem C.Filters_q0:Pure Tryz.prog N.optimize_Filters [qA.av,.d (eI 0)] (.d (.sl [(eqX 0 1).ds])):=by
 have h0:=C.filters_filter 0 0 (eqX 0 1) (scn 0) true (C.filters_scan 0 0 zX)
 have h1:=C.filters_join 0 0 yesX fl0 fl1 true (.sl [(eqX 0 1).ds]) .nil h0 (by intro h;cases h)
 have h2:=C.Filters2 qA (Nat.le_trans qA_bk (by decide)) 0 0 1 scQ (.inl ⟨rfl,by decide⟩) (eqX 0 1) (Nat.le_trans (eqX_bk 0 1) (by decide)) true false h1
 rw[shf_eqX,w0] at h2
 exact h2
theorem C.Filters_q1:Pure Tryz.prog N.optimize_Filters [qA.av,.d (eI 1)] (.d (.sl [(eqX 0 2).ds])):=by
 have h0:=C.filters_filter 0 1 (eqX 0 1) (scn 0) false (C.filters_scan 0 1 zX)
 have h0':=C.filters_filter 0 1 (eqX 0 2) (scn 1) true (C.filters_scan 1 1 zX)
 have h1:=C.filters_join 0 1 yesX fl0 fl1 false .nil (.sl [(eqX 0 2).ds]) h0 (λ_=>h0')
 have h2:=C.Filters2 qA (Nat.le_trans qA_bk (by decide)) 1 0 1 scQ (.inr ⟨by decide,rfl⟩) (eqX 0 2) (Nat.le_trans (eqX_bk 0 2) (by decide)) true false h1
 rw[shf_eqX,w0] at h2
 exact h2
theorem C.law48_awake:Pure Tryz.prog N.bt_law48_awake [] (.d (.bool true)):=by
 have hE1:=C.law48_equals 0 1
 have hE2:=C.law48_equals 2 2
 have hE3:=C.law48_equals 0 2
 have hP:=C.Push_A
 have hF0:=C.Filters_q0
 have hF1:=C.Filters_q1
 have hC0:=C.law48_contains1 (eqX 0 1) (eqX 0 1) (Nat.le_trans (eqX_bk 0 1) (by decide)) (Nat.le_trans (eqX_bk 0 1) (by decide)) (by decide)
 have hC1:=C.law48_contains1 (eqX 0 2) (eqX 0 2) (Nat.le_trans (eqX_bk 0 2) (by decide)) (Nat.le_trans (eqX_bk 0 2) (by decide)) (by decide)
 have hZ:=C.optimize_Size [3,0] (by decide) (.sl (eIs [3,0])) (.inr rfl) leftP (Nat.le_trans left_bk (by decide))
 have hS:=C.optimize_Scans pA (Nat.le_trans pA_bk (by decide))
 rw[szL] at hZ
 rw[scA,show ng true (eIs [0,1])=.sl [[eI 0],[eI 1]] from rfl] at hS
 rw[qA_av] at hP hF0 hF1
 obtain⟨dq,hdq⟩:∃d,d=D.sl [fl0.ds,fl1.ds]:=⟨_,rfl⟩
 rw[<- hdq] at hP hF0 hF1
 rw[pA_av] at hP hS
 rw[left_av] at hZ
 rw[join_ds] at hP hS
 rw[scn_ds,scn_ds] at hP hS hZ
 rw[eqX_av] at hE1 hE2 hE3 hC0 hC1
 rw[eqX_ds,eqX_ds] at hP hS
 obtain⟨d0,hd0⟩:∃d,d=D.sl [(eqX 0 1).ds]:=⟨_,rfl⟩
 obtain⟨d1,hd1⟩:∃d,d=D.sl [(eqX 0 2).ds]:=⟨_,rfl⟩
 rw[<- hd0] at hF0 hC0
 rw[<- hd1] at hF1 hC1
 have hP:Bi.Pure Tryz.prog N.optimize_Push [_,.d (.sl [[.sl [[eI 1],[eI 1]]],[.sl [[eI 1],[eI 1]]]])] _:=hP
 have hZ:Bi.Pure Tryz.prog N.optimize_Size [_,.d (.sl [[eI 3],[eI 0]])] _:=hZ
 clear hdq hd0 hd1
 refine F.bt_law48_awake.go mixed rfl ?_
 repeat' first|(with_reducible apply k_lk2)|refine st ?_|((with_reducible apply go_i);conv=>whnf)|refine⟨λ_=>?_,λ_=>?_⟩|fail
 all_goals rfl
end Go.Proofs
end
section
namespace Go.Proofs
open Go.Bi
theorem L.OptimizeBounds(p:Pl)(hp:p.bk<=1048576)(I:List Bg)(hI:I.length<=1048576)(hb:∀b∈I,b.ki.length<=1048576/\b.rows.length<=1048576/\∀r∈b.rows,r.vs.length<=1048576/\∀v∈r.vs,v.s.length<=1048576)(din:D)(hin:SlD din (eBs I)) :
  Pure Tryz.prog N.bt_law48_OptimizeBounds [p.av,.d din] (.d (.bool true)):=by
 have hW:=C.law48_awake
 have hR:=C.law48_runnable I hI hb din hin p hp
 cases hr:rnB I p with
 |false=>
  rw[hr] at hR
  obtain⟨op',n',dk',dr',xo',xn',xv',xm',xd',dx',dy',da',di',c1,c2⟩:=Pl.cut p
  rw[c2] at hR ⊢
  clear c1 c2 hr
  refine F.bt_law48_OptimizeBounds.go mixed rfl ?_
  repeat' first|refine st ?_|((with_reducible apply go_i);conv=>whnf)|refine⟨λ_=>?_,λ_=>?_⟩|fail
  all_goals rfl
 |true=>
  rw[hr] at hR
  unfold rnB at hr
  rw[Bool.and_eq_true,Bool.and_eq_true] at hr
  obtain⟨⟨h1,h2⟩,h3⟩:=hr
  have h1:=of_decide_eq_true h1
  have h3:=of_decide_eq_true h3
  have hG:=vlB_in h2
  have hN:(ndF (ksI I) p).2=0:=by
   unfold cpF at h1
   split at h1
   ·cases h1
   ·exact h1
  have hB:=(evB_good hG p hp hN h3).len
  have hs0:=(szP_bd (rsI I) p hp)
  have hRun:=C.r21_Run (by omega) (λb h=>by have:=(hb b h).1;omega) hG din hin p hp h1 h3
  have hRs:=C.law48_rows I (by omega) (λb h=>by have:=(hb b h).2.1;omega) din hin
  have hSz:=C.optimize_Size (rsI I) (by rw[List.length_map];exact hI) (.sl (eIs (rsI I))) (.inr rfl) p hp
  obtain⟨b,hbb⟩:∃b,b=evB I p:=⟨_,rfl⟩
  rw[<- hbb] at hRun hB
  have hsr:SlD b.rd (eRs b.rows):=sld_ng
  have hrl:=eRs_len b.rows
  have hRun:Bi.Pure Tryz.prog N.bt_ref21_Run [p.av,.d din] (.tup [.agg [.d b.kd,.d b.rd],.d (eI 0)]):=hRun
  obtain⟨kd,hkd⟩:∃d,d=b.kd:=⟨_,rfl⟩
  obtain⟨rd,hrd⟩:∃d,d=b.rd:=⟨_,rfl⟩
  rw[<- hkd,<- hrd] at hRun
  rw[<- hrd] at hsr
  obtain⟨er,her⟩:∃z,z=eRs b.rows:=⟨_,rfl⟩
  rw[<- her] at hsr hrl
  obtain⟨s,hs⟩:∃s,s=szP (rsI I) p:=⟨_,rfl⟩
  rw[<- hs] at hSz hB hs0
  have hle:(er.length:Int)<=s:=by omega
  obtain⟨rr,hrr⟩:∃z,z=eIs (rsI I):=⟨_,rfl⟩
  rw[<- hrr] at hRs hSz
  clear hbb hkd hrd her hs hrr h1 h2 h3 hG hN hb hB
  obtain⟨op',n',dk',dr',xo',xn',xv',xm',xd',dx',dy',da',di',c1,c2⟩:=Pl.cut p
  rw[c2] at hR hRun hSz ⊢
  clear c1 c2
  refine F.bt_law48_OptimizeBounds.go mixed rfl ?_
  repeat' first|refine st ?_|((with_reducible apply go_i);conv=>whnf)|refine⟨λ_=>?_,λ_=>?_⟩|fail
  all_goals first|rfl|simp[hle]|(exfalso;omega)
end Go.Proofs
end
section
namespace Go.Proofs
open Go.Bi
abbrev T.rws:TypeId:=23
abbrev T.ag:TypeId:=99
abbrev T.ags:TypeId:=29
abbrev T.pl:TypeId:=32
abbrev T.pls:TypeId:=30
abbrev T.bg:TypeId:=43
abbrev T.bgs:TypeId:=33
theorem cells_rws:Tryz.prog.cellsOf T.rws=1:=by kernel_rfl
theorem cells_ag:Tryz.prog.cellsOf T.ag=2:=by kernel_rfl
theorem cells_ags:Tryz.prog.cellsOf T.ags=1:=by kernel_rfl
theorem cells_pl:Tryz.prog.cellsOf T.pl=15:=by kernel_rfl
theorem cells_pls:Tryz.prog.cellsOf T.pls=1:=by kernel_rfl
theorem cells_bg:Tryz.prog.cellsOf T.bg=2:=by kernel_rfl
theorem cells_intsY:Tryz.prog.cellsOf T.ints=1:=by kernel_rfl
theorem sld_nl{d:D}{es:List (List D)}(h:SlD d es):∃nl,d=ng nl es:=by
 rcases h with ⟨rfl,rfl⟩|rfl
 ·exact⟨true,rfl⟩
 ·exact⟨false,rfl⟩
theorem wt_intsN{ds:List D}(h:WT Tryz.prog T.ints ds):∃nl ks,ds=[ng nl (eIs ks)]:=by
 obtain⟨d,ks,h1,h2⟩:=wt_ints h
 obtain⟨nl,h3⟩:=sld_nl h2
 exact⟨nl,ks,by rw[h1,h3]⟩
theorem wt_rws{ds:List D}(h:WT Tryz.prog T.rws ds):∃nl l,ds=[ng nl (eRs l)]:=by
 obtain⟨d,es,h1,h2,h4,h3⟩:=h.sl' Tryz.underlying23
 have:∃c,es=eRs c:=by
  clear h1 h2 h4
  induction es with
  |nil=>exact⟨[],rfl⟩
  |cons x es ih=>
   obtain⟨d,row,hn,hs⟩:=wt_vals (h3 x (by simp))
   obtain⟨nl,hd⟩:=sld_nl hs
   obtain⟨ks,hk⟩:=ih λy hy=>h3 y (by simp[hy])
   exact⟨⟨nl,row⟩::ks,by rw[hn,hk,hd];rfl⟩
 obtain⟨c,rfl⟩:=this
 obtain⟨nl,h5⟩:=sld_nl h2
 exact⟨nl,c,by rw[h1,h5]⟩
theorem wt_ag{ds:List D}(h:WT Tryz.prog T.ag ds):∃a:Ag,ds=a.ds:=by
 obtain⟨hl,hf⟩:=h.st' Tryz.underlying99
 rw[cells_ag] at hl
 match ds,hl with
 |[d0,d1],_=>
  have h0:=hf _ (List.mem_cons_self ..)
  have h1:=hf _ (List.mem_cons_of_mem _ (List.mem_cons_self ..))
  dsimp only at h0 h1
  rw[cells_int] at h0 h1
  obtain⟨a,h0⟩:=wt_int h0
  obtain⟨b,h1⟩:=wt_int h1
  simp at h0 h1
  exact⟨⟨a,b⟩,by rw[h0,h1]⟩
theorem wt_ags{ds:List D}(h:WT Tryz.prog T.ags ds):∃nl l,ds=[ng nl (eAs l)]:=by
 obtain⟨d,es,h1,h2,h4,h3⟩:=h.sl' Tryz.underlying29
 have:∃c,es=eAs c:=by
  clear h1 h2 h4
  induction es with
  |nil=>exact⟨[],rfl⟩
  |cons x es ih=>
   obtain⟨a,hn⟩:=wt_ag (h3 x (by simp))
   obtain⟨ks,hk⟩:=ih λy hy=>h3 y (by simp[hy])
   exact⟨a::ks,by rw[hn,hk];rfl⟩
 obtain⟨c,rfl⟩:=this
 obtain⟨nl,h5⟩:=sld_nl h2
 exact⟨nl,c,by rw[h1,h5]⟩
theorem wt_exsN{ds:List D}(h:WT Tryz.prog T.exs ds):∃nl l,ds=[ng nl (xL l)]:=by
 obtain⟨nl,args,e⟩:=(wt_ex' h).2 rfl
 exact⟨nl,args,e⟩
theorem wt_pl'{t:TypeId}{ds:List D}(h:WT Tryz.prog t ds):(t=T.pl->∃p:Pl,ds=p.ds)/\(t=T.pls->∃nl l,ds=[ng nl (pL l)]):=by
 induction h with
 |int h=>exact⟨λe=>(by subst e;rw[Tryz.underlying32] at h;cases h),λe=>(by subst e;rw[Tryz.underlying30] at h;cases h)⟩
 |bool h=>exact⟨λe=>(by subst e;rw[Tryz.underlying32] at h;cases h),λe=>(by subst e;rw[Tryz.underlying30] at h;cases h)⟩
 |str h=>exact⟨λe=>(by subst e;rw[Tryz.underlying32] at h;cases h),λe=>(by subst e;rw[Tryz.underlying30] at h;cases h)⟩
 |nil h=>exact⟨λe=>(by subst e;rw[Tryz.underlying32] at h;cases h),λe=>⟨true,[],rfl⟩⟩
 |@sl t e es h hl hs he ih=>
  refine⟨λe=>(by subst e;rw[Tryz.underlying32] at h;cases h),λe'=>?_⟩
  subst e'
  rw[Tryz.underlying30] at h
  cases h
  have:∃l,es=pL l:=by
   clear he hs hl
   induction es with
   |nil=>exact⟨[],rfl⟩
   |cons x es ihh=>
    obtain⟨n,hn⟩:=(ih x (by simp)).1 rfl
    obtain⟨ks,hk⟩:=ihh λy hy=>ih y (by simp[hy])
    exact⟨n::ks,by rw[hn,hk];rfl⟩
  obtain⟨l,rfl⟩:=this
  exact⟨false,l,rfl⟩
 |@st t fs ds h hl hf ih=>
  refine⟨λe=>?_,λe=>(by subst e;rw[Tryz.underlying30] at h;cases h)⟩
  subst e
  rw[Tryz.underlying32] at h
  cases h
  rw[cells_pl] at hl
  match ds,hl with
  |[d0,d1,d2,d3,d4,d5,d6,d7,d8,d9,d10,d11,d12,d13,d14],_=>
   have h0:=hf _ (List.mem_cons_self ..)
   have h1:=hf _ (List.mem_cons_of_mem _ (List.mem_cons_self ..))
   have h2:=hf _ (List.mem_cons_of_mem _ (List.mem_cons_of_mem _ (List.mem_cons_self ..)))
   have h3:=hf _ (List.mem_cons_of_mem _ (List.mem_cons_of_mem _ (List.mem_cons_of_mem _ (List.mem_cons_self ..))))
   have h4:=hf _ (List.mem_cons_of_mem _ (List.mem_cons_of_mem _ (List.mem_cons_of_mem _ (List.mem_cons_of_mem _ (List.mem_cons_self ..)))))
   have h5:=hf _ (List.mem_cons_of_mem _ (List.mem_cons_of_mem _ (List.mem_cons_of_mem _ (List.mem_cons_of_mem _ (List.mem_cons_of_mem _ (List.mem_cons_self ..))))))
   have h6:=hf _ (List.mem_cons_of_mem _ (List.mem_cons_of_mem _ (List.mem_cons_of_mem _ (List.mem_cons_of_mem _ (List.mem_cons_of_mem _ (List.mem_cons_of_mem _ (List.mem_cons_self ..)))))))
   have h7:=hf _ (List.mem_cons_of_mem _ (List.mem_cons_of_mem _ (List.mem_cons_of_mem _ (List.mem_cons_of_mem _ (List.mem_cons_of_mem _ (List.mem_cons_of_mem _ (List.mem_cons_of_mem _ (List.mem_cons_self ..))))))))
   have h8:=(ih _ (List.mem_cons_of_mem _ (List.mem_cons_of_mem _ (List.mem_cons_of_mem _ (List.mem_cons_of_mem _ (List.mem_cons_of_mem _ (List.mem_cons_of_mem _ (List.mem_cons_of_mem _ (List.mem_cons_of_mem _ (List.mem_cons_self ..)))))))))).2 rfl
   dsimp only at h0 h1 h2 h3 h4 h5 h6 h7 h8
   rw[cells_int] at h0 h1
   rw[cells_intsY] at h2 h6
   rw[cells_rws] at h3
   rw[cells_ex] at h4
   rw[cells_exs] at h5
   rw[cells_ags] at h7
   rw[cells_pls] at h8
   obtain⟨a,ha⟩:=wt_int h0
   obtain⟨b,hb⟩:=wt_int h1
   obtain⟨nk,ki,hk⟩:=wt_intsN h2
   obtain⟨nr,rows,hr⟩:=wt_rws h3
   obtain⟨pred,hp⟩:=wt_ex h4
   obtain⟨nx,xs,hx⟩:=wt_exsN h5
   obtain⟨ny,keys,hy⟩:=wt_intsN h6
   obtain⟨na,aggs,hg⟩:=wt_ags h7
   obtain⟨ni,ins,hi⟩:=h8
   simp at ha hb hk hr hx hy hg hi
   refine⟨.mk ⟨a,b,nk,ki,nr,rows,pred,nx,xs,ny,keys,na,aggs⟩ ni ins,?_⟩
   rw[Pl.ds_mk,ha,hb,hk,hr,hx,hy,hg,hi]
   have hp:[d4,d5,d6,d7,d8,d9,d10]=pred.ds:=hp
   show _=[eI a,eI b,ng nk (eIs ki),ng nr (eRs rows)]++pred.ds++[ng nx (xL xs),ng ny (eIs keys),ng na (eAs aggs),ng ni (pL ins)]
   rw[<- hp];rfl
theorem wt_pl{ds:List D}(h:WT Tryz.prog T.pl ds):∃p:Pl,ds=p.ds:=(wt_pl' h).1 rfl
theorem av_pl(p:Pl):avOf Tryz.prog T.pl p.ds=p.av:=by unfold avOf;rw[Tryz.underlying32];rfl
theorem wt_bg{ds:List D}(h:WT Tryz.prog T.bg ds):∃b:Bg,ds=[b.kd,b.rd]:=by
 obtain⟨hl,hf⟩:=h.st' Tryz.underlying43
 rw[cells_bg] at hl
 match ds,hl with
 |[d0,d1],_=>
  have h0:=hf _ (List.mem_cons_self ..)
  have h1:=hf _ (List.mem_cons_of_mem _ (List.mem_cons_self ..))
  dsimp only at h0 h1
  rw[cells_intsY] at h0
  rw[cells_rws] at h1
  obtain⟨nk,ki,h0⟩:=wt_intsN h0
  obtain⟨nr,rows,h1⟩:=wt_rws h1
  simp at h0 h1
  exact⟨⟨nk,ki,nr,rows⟩,by rw[h0,h1]⟩
theorem wt_bgs{ds:List D}(h:WT Tryz.prog T.bgs ds):∃d l,ds=[d]/\SlD d (eBs l):=by
 obtain⟨d,es,h1,h2,h4,h3⟩:=h.sl' Tryz.underlying33
 have:∃c,es=eBs c:=by
  clear h1 h2 h4
  induction es with
  |nil=>exact⟨[],rfl⟩
  |cons x es ih=>
   obtain⟨b,hn⟩:=wt_bg (h3 x (by simp))
   obtain⟨ks,hk⟩:=ih λy hy=>h3 y (by simp[hy])
   exact⟨b::ks,by rw[hn,hk];rfl⟩
 obtain⟨c,rfl⟩:=this
 exact⟨d,c,h1,h2⟩
theorem av_bgs(d:D):avOf Tryz.prog T.bgs [d]=.d d:=by unfold avOf;rw[Tryz.underlying33]
theorem bgs_bulk{d:D}{I:List Bg}(h:SlD d (eBs I)){B:Nat}(hb:bulkL [d]<=B):I.length<=B/\∀b∈I,b.ki.length<=B/\b.rows.length<=B/\∀r∈b.rows,r.vs.length<=B/\∀v∈r.vs,v.s.length<=B:=by
 have h1:=sld_bulk h
 have h2:(eBs I).length<=bulkLL (eBs I):=bulkLL_len λx hx=>by
  obtain⟨b,_,rfl⟩:=List.mem_map.1 hx
  simp only[bulkL]
  unfold Bg.kd ng
  split<;>simp[bulkD]<;>omega
 rw[eBs_len] at h2
 refine⟨by omega,λb hbm=>?_⟩
 have h3:bulkL [ng b.nk (eIs b.ki),ng b.nr (eRs b.rows)]<=bulkLL (eBs I):=bulkLL_mem (List.mem_map.2 ⟨b,hbm,rfl⟩)
 have h4:=bulkD_ng b.nk (eIs b.ki)
 have h5:=bulkD_ng b.nr (eRs b.rows)
 have h6:=eIs_bulk_len b.ki
 have h7:=eRs_bulk_len b.rows
 have h8:bulkD (ng b.nk (eIs b.ki))+bulkD (ng b.nr (eRs b.rows))<=bulkL [ng b.nk (eIs b.ki),ng b.nr (eRs b.rows)]:=by simp only[bulkL];omega
 refine⟨by omega,by omega,λr hr=>?_⟩
 have b1:bulkL [ng r.nl (eVs r.vs)]<=bulkLL (eRs b.rows):=bulkLL_mem (List.mem_map.2 ⟨r,hr,rfl⟩)
 have b2:=bulkD_ng r.nl (eVs r.vs)
 have b3:bulkLL (eVs r.vs)<=B:=by simp only[bulkL] at b1;omega
 obtain⟨c1,c2⟩:=eVs_bulk_len r.vs
 exact⟨by omega,λv hv=>Nat.le_trans (c2 v hv) b3⟩
end Go.Proofs
end
