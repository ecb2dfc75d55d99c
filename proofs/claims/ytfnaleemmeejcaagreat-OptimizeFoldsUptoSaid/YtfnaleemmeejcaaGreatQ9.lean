/- Texts of this claim, joined. No condition. -/
import Derived.Test.YtfnaleemmeejcaaGreatQ8
set_option linter.unusedSimpArgs false
set_option linter.unusedVariables false
set_option maxRecDepth 10000
set_option maxHeartbeats 4000000
section
namespace Go.Proofs
open Go.Bi
abbrev tyA(p:Pl)(kd:D):AV:=.agg (p.ds.map .d++[.d kd])
abbrev rcv(din:D):List AO:=[.cells [.d din]]
theorem C.typed(K:List Kw)(hK:K.length<=4194304)(hKb:∀k∈K,k.ks.length<=4194304)(din:D)(hin:SlD din (eKw K))(p:Pl)(hb:p.bk<=1048576) :
  CallSpec Tryz.prog N.poptimize_rewriter_typed [.ptr 0 0,p.av] (rcv din) (λr os=>r=tyA p (cpF K p).1.d/\os=rcv din):=by
 have hC:=C.snapshot_Check K hK hKb din hin p hb
 obtain⟨op',n',dk',dr',xo',xn',xv',xm',xd',dx',dy',da',di',c1,c2⟩:=Pl.cut p
 unfold tyA
 rw[c2] at hC ⊢
 rw[c1]
 obtain⟨kd,hkd⟩:∃d,d=(cpF K p).1.d:=⟨_,rfl⟩
 obtain⟨ke,hke⟩:∃d,d=(cpF K p).2:=⟨_,rfl⟩
 rw[<- hkd,<- hke] at hC
 rw[<- hkd]
 clear hkd hke c1 c2
 have r0:xv'.k=xv'.k:=rfl
 have r1:xv'.s=xv'.s:=rfl
 have r2:xm'=xm':=rfl
 refine F.poptimize_rewriter_typed.goX mixed rfl ?_
 repeat' first|refine st ?_|((with_reducible apply go_i);conv=>whnf)|refine⟨λ_=>?_,λ_=>?_⟩|fail
 all_goals exact⟨rfl,rfl⟩
def flP(p:Pl)(l:List Ex):Pl:=if l.length=0 then p else pl0 3 0 (allX false (l.map (shf 0))) [p]
theorem C.filtered(p:Pl)(l:List Ex)(hb:∀x∈l,x.bk<=1048576)(hl:l.length<=1048576)(d:D)(hd:SlD d (xL l)):Pure Tryz.prog N.optimize_filtered [p.av,.d d] (flP p l).av:=by
 have hA:=C.predicate_All l hb hl d hd
 obtain⟨q,hq⟩:∃q,q=flP p l:=⟨_,rfl⟩
 rw[<- hq]
 unfold flP at hq
 have l1:=xL_len l
 obtain⟨es,hes⟩:∃z,z=xL l:=⟨_,rfl⟩
 rw[<- hes] at hd l1
 clear hes
 have hpc:=Pl.cut p
 by_cases h:l.length=0
 ·rw[if_pos h] at hq
  subst hq
  have h0:(es.length:Int)=0:=by omega
  obtain⟨op',n',dk',dr',xo',xn',xv',xm',xd',dx',dy',da',di',c1,c2⟩:=hpc
  rw[c2]
  clear c1 c2 hA
  refine F.optimize_filtered.go mixed rfl ?_
  repeat' first|refine st ?_|((with_reducible apply go_i);conv=>whnf)|refine⟨λ_=>?_,λ_=>?_⟩|fail
  all_goals rfl
 ·rw[if_neg h] at hq
  have h0:¬(es.length:Int)=0:=by omega
  subst hq
  obtain⟨e,he⟩:∃e,e=allX false (l.map (shf 0)):=⟨_,rfl⟩
  rw[<- he] at hA ⊢
  clear he
  obtain⟨xo,xn,xv,xm,xl,xa⟩:=e
  rw[Ex.av_mk] at hA
  rw[pl0_av]
  have e1:ng true (pL [p])=.sl [p.ds]:=rfl
  rw[e1]
  obtain⟨op',n',dk',dr',xo',xn',xv',xm',xd',dx',dy',da',di',c1,c2⟩:=hpc
  rw[c1,c2]
  obtain⟨xd,hxd⟩:∃d,d=ng xl (xL xa):=⟨_,rfl⟩
  rw[<- hxd] at hA ⊢
  clear c1 c2 hxd e1
  refine F.optimize_filtered.go mixed rfl ?_
  repeat' first|refine st ?_|((with_reducible apply go_i);conv=>whnf)|refine⟨λ_=>?_,λ_=>?_⟩|fail
  all_goals rfl
theorem rcvK{g:FuncId}{din:D}{r:AV}{ars:List AV}(h:CallSpec Tryz.prog g ars (rcv din) (λr' os'=>r'=r/\os'=rcv din))(ha:∀a∈ars,a.bnd2 1)(hr:∀f,mA f r=r)(rest:List AO) :
  CallSpec Tryz.prog g ars (rcv din++rest) (λr' os'=>r'=r/\os'=rcv din++rest):=
 CallSpec.pre h rest ha (by
  intro o ho
  simp only[List.mem_cons,List.not_mem_nil,or_false] at ho
  subst ho;simp[AO.bnd,AV.bnd1]) (by
  rintro r' bs' ⟨rfl,rfl⟩
  refine⟨rfl,?_,hr,rfl,rfl⟩
  intro o ho
  simp only[List.mem_cons,List.not_mem_nil,or_false] at ho
  subst ho;simp[AO.bnd,AV.bnd1])
theorem rcvL{g:FuncId}{din:D}{r:AV}{ars ars':List AV}(id:Nat)(h:CallSpec Tryz.prog g ars (rcv din) (λr' os'=>r'=r/\os'=rcv din))(hm:∀n,ars.map (mG (rn [id] n))=ars')(hba:∀a∈ars,a.bnd2 1)(hr:∀f,mA f r=r)(os:List AO)(ho:os[id]?=some (.cells [.d din])) :
  CallSpec Tryz.prog g ars' os (λr' os'=>r'=r/\os'=os):=by
 have:=CallSpec.frame (K:=λr' os'=>r'=r/\os'=os) h [id] os rfl (by simp) (λi o hx=>?_) hba (λo hx=>?_) ?_
 ·rw[hm] at this;exact this
 ·cases i with
  |zero=>simp at hx;subst hx;exact ho
  |succ i=>simp at hx
 ·cases List.mem_singleton.1 hx
  simp[AO.bnd,AV.bnd1]
 ·rintro _ _ ⟨rfl,rfl⟩
  refine⟨hr _,?_⟩
  have hlt:=(List.getElem?_eq_some_iff.1 ho).1
  have e:os.set id (.cells [.d din])=os:=by
   apply List.ext_getElem?
   intro j
   rw[List.getElem?_set]
   by_cases hj:id=j
   ·subst hj
    rw[if_pos rfl,if_pos hlt,ho]
   ·rw[if_neg hj]
  show putA _ [id] (rcv din) os=os
  simp only[putA,mO,mC,List.map_cons,List.map_nil,List.append_nil]
  exact e
theorem tyA_ds(p:Pl)(kd:D):tyA p kd=.agg ((p.ds++[kd]).map .d):=by unfold tyA;simp
theorem rcv_a(ds:List D):∀a∈[AV.ptr 0 0,.agg (ds.map .d)],a.bnd2 1:=by
 intro a ha
 simp only[List.mem_cons,List.not_mem_nil,or_false] at ha
 rcases ha with rfl|rfl
 ·simp[AV.bnd2,AV.bnd1]
 ·exact bnd_ds _ _
theorem rcv_b(ds:List D)(d:D):∀a∈[AV.ptr 0 0,.agg (ds.map .d),.d d],a.bnd2 1:=by
 intro a ha
 simp only[List.mem_cons,List.not_mem_nil,or_false] at ha
 rcases ha with rfl|rfl|rfl
 ·simp[AV.bnd2,AV.bnd1]
 ·exact bnd_ds _ _
 ·simp[AV.bnd2,AV.bnd1]
theorem C.place_leaf(din:D)(o:Po)(ni:Bool)(ins:List Pl)(ho:o.op≠3/\o.op≠5/\o.op≠6)(kd:D)(l:List Ex)(hb:∀x∈l,x.bk<=1048576)(hl:l.length<=1048576)(d:D)(hd:SlD d (xL l)) :
  CallSpec Tryz.prog N.poptimize_rewriter_place [.ptr 0 0,tyA (.mk o ni ins) kd,.d d] (rcv din) (λr os=>r=(flP (.mk o ni ins) l).av/\os=rcv din):=by
 have hF:=C.filtered (.mk o ni ins) l hb hl d hd
 obtain⟨q,hq⟩:∃q,q=flP (.mk o ni ins) l:=⟨_,rfl⟩
 rw[<- hq] at hF ⊢
 clear hq
 obtain⟨op',n',dk',dr',xo',xn',xv',xm',xd',dx',dy',da',di',c1,c2⟩:=Pl.cut q
 rw[c2] at hF ⊢
 obtain⟨o1,o2,o3⟩:=ho
 obtain⟨op,n,nk,ki,nr,rows,⟨xo,xn,xv,xm,xl,xa⟩,nx,xs,ny,keys,na,aggs⟩:=o
 dsimp only at o1 o2 o3
 have hds:(Pl.mk (⟨op,n,nk,ki,nr,rows,.mk xo xn xv xm xl xa,nx,xs,ny,keys,na,aggs⟩:Po) ni ins).ds=ePld op n (ng nk (eIs ki)) (ng nr (eRs rows)) xo xn xv xm (ng xl (xL xa)) (ng nx (xL xs)) (ng ny (eIs keys)) (ng na (eAs aggs)) (ng ni (pL ins)):=Pl.ds_eq _ _ _ _ _ _ _ _ _ rfl
 have hav:(Pl.mk (⟨op,n,nk,ki,nr,rows,.mk xo xn xv xm xl xa,nx,xs,ny,keys,na,aggs⟩:Po) ni ins).av=ePl op n (ng nk (eIs ki)) (ng nr (eRs rows)) xo xn xv xm (ng xl (xL xa)) (ng nx (xL xs)) (ng ny (eIs keys)) (ng na (eAs aggs)) (ng ni (pL ins)):=Pl.av_eq _ _ _ _ _ _ _ _ _ rfl
 rw[hav] at hF
 unfold tyA
 rw[hds]
 obtain⟨dk,e1⟩:∃d,d=ng nk (eIs ki):=⟨_,rfl⟩
 obtain⟨dr,e2⟩:∃d,d=ng nr (eRs rows):=⟨_,rfl⟩
 obtain⟨dx,e3⟩:∃d,d=ng nx (xL xs):=⟨_,rfl⟩
 obtain⟨dy,e4⟩:∃d,d=ng ny (eIs keys):=⟨_,rfl⟩
 obtain⟨da,e5⟩:∃d,d=ng na (eAs aggs):=⟨_,rfl⟩
 obtain⟨di,e6⟩:∃d,d=ng ni (pL ins):=⟨_,rfl⟩
 obtain⟨xd,e7⟩:∃d,d=ng xl (xL xa):=⟨_,rfl⟩
 rw[<- e1,<- e2,<- e3,<- e4,<- e5,<- e6,<- e7] at hF ⊢
 clear e1 e2 e3 e4 e5 e6 e7 hav hds c1 c2
 have r0:xv.k=xv.k:=rfl
 have r1:xv.s=xv.s:=rfl
 have r2:xm=xm:=rfl
 have r3:xv'.s=xv'.s:=rfl
 have r4:xm'=xm':=rfl
 refine F.poptimize_rewriter_place.goX mixed rfl ?_
 repeat' first|refine st ?_|((with_reducible apply go_i);conv=>whnf)|refine⟨λ_=>?_,λ_=>?_⟩|fail
 all_goals exact⟨rfl,rfl⟩
abbrev cjl(l:List Ex):List Ex:=(cj (allX false (l.map (shf 0)))).map (shf 0)
theorem C.place_join(K:List Kw)(hK:K.length<=4194304)(hKb:∀k∈K,k.ks.length<=4194304)(din:D)(hin:SlD din (eKw K))(n:Int)(pred:Ex)(a b:Pl)(hab:a.bk<=1048576)(hbb:b.bk<=1048576)(kd:D)(l:List Ex)(hb:∀x∈l,x.bk<=1048576)(hl:l.length<=1048576)(d:D)(hd:SlD d (xL l))
  (hall:(allX false (l.map (shf 0))).bk<=1048576) (m:Nat) (hm:(cpF K a).1.ks.length=m) (hm2:m<=48) (hr:∀x∈cjl l,x.bk<=1048576) (hrl:(cjl l).length<=1048576) (ra rb:Pl)
  (hA:CallSpec Tryz.prog N.poptimize_rewriter_place [.ptr 0 0,tyA a (cpF K a).1.d,.d (nsl (xL (sel m 0 (cjl l))))] (rcv din) (λr os=>r=ra.av/\os=rcv din))
  (hB:CallSpec Tryz.prog N.poptimize_rewriter_place [.ptr 0 0,tyA b (cpF K b).1.d,.d (ng true (xL ((sel m 1 (cjl l)).map (shf (0-m)))))] (rcv din) (λr os=>r=rb.av/\os=rcv din)) :
  CallSpec Tryz.prog N.poptimize_rewriter_place [.ptr 0 0,tyA (pl0 5 n pred [a,b]) kd,.d d] (rcv din) (λr os=>r=(flP (pl0 5 n pred [ra,rb]) (sel m 2 (cjl l))).av/\os=rcv din):=by
 have hTa:=C.typed K hK hKb din hin a hab
 have hTb:=C.typed K hK hKb din hin b hbb
 have hAl:=C.predicate_All l hb hl d hd
 have hSp:=C.predicate_Split m (allX false (l.map (shf 0))) hall
 have hsel:∀k:Nat,∀x∈sel m k (cjl l),x∈cjl l:=λk x hx=>(List.mem_filter.1 hx).1
 have hsl:∀k:Nat,(sel m k (cjl l)).length<=1048576:=λk=>Nat.le_trans (List.length_filter_le _ _) hrl
 have hFl:=C.filtered (pl0 5 n pred [ra,rb]) (sel m 2 (cjl l)) (λx hx=>hr x (hsel 2 x hx)) (hsl 2) (nsl (xL (sel m 2 (cjl l)))) (by rw[nsl_ng];exact sld_ng)
 have hSh:=λx hx=>C.expr_Shift x (hr x (hsel 1 x hx)) (0-(m:Int))
 obtain⟨q,hq⟩:∃q,q=flP (pl0 5 n pred [ra,rb]) (sel m 2 (cjl l)):=⟨_,rfl⟩
 rw[<- hq] at hFl ⊢
 clear hq hb hl hall hrl hr
 have hska:SlD (cpF K a).1.d (eIs (cpF K a).1.ks):=sld_ng
 have hkl:=eIs_len (cpF K a).1.ks
 rw[hm] at hkl
 obtain⟨ka,hka⟩:∃d,d=(cpF K a).1.d:=⟨_,rfl⟩
 obtain⟨kb,hkb⟩:∃d,d=(cpF K b).1.d:=⟨_,rfl⟩
 obtain⟨ek,hek⟩:∃z,z=eIs (cpF K a).1.ks:=⟨_,rfl⟩
 rw[<- hka] at hTa hA hska
 rw[<- hkb] at hTb hB
 rw[<- hek] at hska hkl
 clear hka hkb hek hm
 obtain⟨d0,hd0⟩:∃z,z=nsl (xL (sel m 0 (cjl l))):=⟨_,rfl⟩
 obtain⟨d2,hd2⟩:∃z,z=nsl (xL (sel m 2 (cjl l))):=⟨_,rfl⟩
 have hs1:SlD (nsl (xL (sel m 1 (cjl l)))) (xL (sel m 1 (cjl l))):=by rw[nsl_ng];exact sld_ng
 obtain⟨d1,hd1⟩:∃z,z=nsl (xL (sel m 1 (cjl l))):=⟨_,rfl⟩
 have hSp:Bi.Pure Tryz.prog N.predicate_Split [(allX false (l.map (shf 0))).av,.d (eI m)] (.tup [.d (nsl (xL (sel m 0 (cjl l)))),.d (nsl (xL (sel m 1 (cjl l)))),.d (nsl (xL (sel m 2 (cjl l))))]):=hSp
 rw[<- hd0,<- hd1,<- hd2] at hSp
 rw[<- hd0] at hA
 rw[<- hd1] at hs1
 rw[<- hd2] at hFl
 clear hd0 hd1 hd2
 obtain⟨L,hL⟩:∃z,z=sel m 1 (cjl l):=⟨_,rfl⟩
 rw[<- hL] at hs1 hB hSh
 have hLl:L.length<=1048576:=by rw[hL];exact hsl 1
 clear hsel hsl
 clear hL
 obtain⟨e,he⟩:∃e,e=allX false (l.map (shf 0)):=⟨_,rfl⟩
 rw[<- he] at hAl hSp
 clear he
 obtain⟨eo,en,ev',em,el,ea⟩:=e
 rw[Ex.av_mk] at hAl hSp
 obtain⟨ed,hed⟩:∃d,d=ng el (xL ea):=⟨_,rfl⟩
 rw[<- hed] at hAl hSp
 clear hed
 have hm1:∀(ds:List D) n,[AV.ptr 0 0,.agg (ds.map .d)].map (mG (rn [0] n))=[.ptr 0 0,.agg (ds.map .d)]:=λds n=>by
  rw[List.map_cons,List.map_cons,List.map_nil,mG_ds];rfl
 have hTaL:=λos2 (ho:os2[0]?=some (AO.cells [.d din]))=>rcvL 0 hTa (hm1 a.ds) (rcv_a _) (λf=>by rw[tyA_ds];exact mA_ds f _) os2 ho
 have hTbL:=λos2 (ho:os2[0]?=some (AO.cells [.d din]))=>rcvL 0 hTb (hm1 b.ds) (rcv_a _) (λf=>by rw[tyA_ds];exact mA_ds f _) os2 ho
 clear hm1
 rw[show ng true (xL (L.map (shf (0-(m:Int)))))=if (xL (L.map (shf (0-(m:Int))))).isEmpty then .nil else .sl (xL (L.map (shf (0-(m:Int))))) by cases xL (L.map (shf (0-(m:Int))))<;>rfl] at hB
 have hAL:=λrest=>rcvK hA (by rw[tyA_ds];exact rcv_b _ _) (λf=>mA_ds f _) rest
 have hBL:=λrest=>rcvK hB (by rw[tyA_ds];exact rcv_b _ _) (λf=>mA_ds f _) rest
 clear hTa hTb hA hB
 unfold tyA at *
 obtain⟨xo,xn,xv,xm,xl,xa⟩:=pred
 rw[pl0_ds]
 have hpav:(pl0 5 n (.mk xo xn xv xm xl xa) [ra,rb]).av=_:=pl0_av 5 n xo xn xv xm xl xa [ra,rb]
 rw[hpav] at hFl
 have e1:ng true (pL [a,b])=.sl [a.ds,b.ds]:=rfl
 have e2:ng true (pL [ra,rb])=.sl [ra.ds,rb.ds]:=rfl
 rw[e1]
 rw[e2] at hFl
 clear e1 e2 hpav
 obtain⟨xd,hxd⟩:∃d,d=ng xl (xL xa):=⟨_,rfl⟩
 rw[<- hxd] at hFl ⊢
 clear hxd
 obtain⟨ao,an,ak,ar,axo,axn,axv,axm,axd,adx,ady,ada,adi,a1,a2⟩:=Pl.cut a
 obtain⟨bo,bn,bk',br,bxo,bxn,bxv,bxm,bxd,bdx,bdy,bda,bdi,b1,b2⟩:=Pl.cut b
 obtain⟨co,cn,ck,cr,cxo,cxn,cxv,cxm,cxd,cdx,cdy,cda,cdi,c1,c2⟩:=Pl.cut ra
 obtain⟨do',dn,dk,dr,dxo,dxn,dxv,dxm,dxd,ddx,ddy,dda,ddi,d3,d4⟩:=Pl.cut rb
 obtain⟨fo,fn,fk,fr,fxo,fxn,fxv,fxm,fxd,fdx,fdy,fda,fdi,f1,f2⟩:=Pl.cut q
 have hTaL:∀os2:List AO,os2[0]?=some (AO.cells [.d din])->CallSpec Tryz.prog N.poptimize_rewriter_typed [.ptr 0 0,ePl ao an ak ar axo axn axv axm axd adx ady ada adi] os2 (λr' os'=>r'=.agg ((ePld ao an ak ar axo axn axv axm axd adx ady ada adi).map .d++[.d ka])/\os'=os2):=λos2 ho=>by
  have:=hTaL os2 ho
  rw[a1] at this
  exact this
 have hTbL:∀os2:List AO,os2[0]?=some (AO.cells [.d din])->CallSpec Tryz.prog N.poptimize_rewriter_typed [.ptr 0 0,ePl bo bn bk' br bxo bxn bxv bxm bxd bdx bdy bda bdi] os2 (λr' os'=>r'=.agg ((ePld bo bn bk' br bxo bxn bxv bxm bxd bdx bdy bda bdi).map .d++[.d kb])/\os'=os2):=λos2 ho=>by
  have:=hTbL os2 ho
  rw[b1] at this
  exact this
 rw[a1] at hAL ⊢
 rw[b1] at hBL ⊢
 rw[c2] at hAL
 rw[d4] at hBL
 rw[c1,d3,f2] at hFl
 rw[f2]
 clear a1 a2 b1 b2 c1 c2 d3 d4 f1 f2
 have lL:=xL_len L
 have mL:=xL_mem L
 have gL:=λi x=>@xL_get L i x
 obtain⟨es,hes⟩:∃z,z=xL L:=⟨_,rfl⟩
 rw[<- hes] at hs1 lL mL gL
 clear hes
 rw[<- hkl] at hSp
 refine F.poptimize_rewriter_place.goX mixed rfl ?_
 repeat' first|refine st ?_|((with_reducible apply go_i);conv=>whnf)|((with_reducible apply k_pa);(·first|exact hTaL|exact hTbL))|refine⟨λ_=>?_,λ_=>?_⟩|fail
 refine x_nil 13 7 rfl rfl ?_
 refine x_exitW ?_
 refine x_loop1 mixed Lt.poptimize_rewriter_place_l0 Lk.poptimize_rewriter_place_l0 (λ(i:Nat)=>[.arr 5 (xL ((L.take i).map (shf (0-(m:Int))))).length,.d (eI i)]) (λi=>[.cells [.d din],.cells [.d (eI 5),.d (eI n),.d .nil,.d .nil,.d (eI xo),.d (eI xn),.d (eI xv.k),.d (eI xv.n),.d (.str xv.s),.d (.str xm),.d xd,.d .nil,.d .nil,.d .nil,.d (.sl [ePld ao an ak ar axo axn axv axm axd adx ady ada adi,ePld bo bn bk' br bxo bxn bxv bxm bxd bdx bdy bda bdi]),.d kd],.cells [.d (eI 0),.d (eI 0),.d .nil,.d .nil,.d (eI 0),.d (eI 0),.d (eI 0),.d (eI 0),.d (.str []),.d (.str []),.d .nil,.d .nil,.d .nil,.d .nil,.d .nil],.cells [.d (eI ao),.d (eI an),.d ak,.d ar,.d (eI axo),.d (eI axn),.d (eI axv.k),.d (eI axv.n),.d (.str axv.s),.d (.str axm),.d axd,.d adx,.d ady,.d ada,.d adi,.d ka],.cells [.d (eI bo),.d (eI bn),.d bk',.d br,.d (eI bxo),.d (eI bxn),.d (eI bxv.k),.d (eI bxv.n),.d (.str bxv.s),.d (.str bxm),.d bxd,.d bdx,.d bdy,.d bda,.d bdi,.d kb],.arr (xL ((L.take i).map (shf (0-(m:Int))))) 7 0 (xL ((L.take i).map (shf (0-(m:Int))))).isEmpty]) (λi=>i<=L.length) (λi=>L.length-i) 0 rfl rfl rfl rfl (λ_ _=>⟨rfl,rfl⟩) rfl (by omega) ?_
 repeat' first|refine st ?_|((with_reducible apply go_i);conv=>whnf)|refine⟨λ_=>?_,λ_=>?_⟩|fail
 intro i i1
 have hw1:(xL ((L.take i).map (shf (0-(m:Int))))).length=i:=by rw[xL_len,List.length_map,List.length_take];omega
 have hwm:=xL_mem ((L.take i).map (shf (0-(m:Int))))
 have hbd:((xL ((L.take i).map (shf (0-(m:Int))))).length+1)*88<=140737488355328:=by omega
 cases hx:L[i]? with
 |some x=>
  have hlt:=(List.getElem?_eq_some_iff.1 hx).1
  have hilt:(i:Int)<es.length:=by omega
  have hg:=gL i x hx
  have hS:=hSh x (List.mem_of_getElem? hx)
  have ht:xL ((L.take (i+1)).map (shf (0-(m:Int))))=xL ((L.take i).map (shf (0-(m:Int))))++[(shf (0-(m:Int)) x).ds]:=by rw[List.take_add_one,hx];simp[xL]
  obtain⟨A,hA'⟩:∃z,z=xL ((L.take i).map (shf (0-(m:Int)))):=⟨_,rfl⟩
  rw[<- hA'] at hw1 hwm hbd ht ⊢
  obtain⟨y,hy⟩:∃y,y=shf (0-(m:Int)) x:=⟨_,rfl⟩
  rw[<- hy] at hS ht
  clear hy gL hx hA' hSh hTaL hTbL hAL hBL hFl hAl hSp
  obtain⟨x1,x2,x3,x4,x5,x6⟩:=x
  obtain⟨y1,y2,y3,y4,y5,y6⟩:=y
  rw[Ex.av_mk,Ex.av_mk] at hS
  rw[Ex.ds_mk] at hg ht
  have hg:es[((i:Nat):Int).toNat]?=some (xds x1 x2 x3 x4 (ng x5 (xL x6))):=hg
  obtain⟨z1,hz1⟩:∃d,d=ng x5 (xL x6):=⟨_,rfl⟩
  obtain⟨z2,hz2⟩:∃d,d=ng y5 (xL y6):=⟨_,rfl⟩
  rw[<- hz1,<- hz2] at hS
  rw[<- hz1] at hg
  rw[<- hz2] at ht
  clear hz1 hz2
  rw[<- hkl] at hS
  have q0:x3.s=x3.s:=rfl
  have q1:x4=x4:=rfl
  have q2:y3.s=y3.s:=rfl
  have q3:y4=y4:=rfl
  repeat' first|refine st ?_|((with_reducible apply go_i);conv=>whnf)|refine⟨λ_=>?_,λ_=>?_⟩|fail
  exact⟨i+1,by rw[ht];simp,rfl,by rw[ht];simp,by omega,by omega⟩
 |none=>
  have hge:=List.getElem?_eq_none_iff.1 hx
  have hilt:(es.length:Int)<=i:=by omega
  rw[List.take_of_length_le hge] at hw1 hwm hbd ⊢
  obtain⟨A,hA'⟩:∃z,z=xL (L.map (shf (0-(m:Int)))):=⟨_,rfl⟩
  rw[<- hA'] at hw1 hwm hbd hBL ⊢
  clear gL hx hA' hSh hTaL hTbL hAl hSp
  repeat' first|refine st ?_|((with_reducible apply go_i);conv=>whnf)|refine⟨λ_=>?_,λ_=>?_⟩|fail
  refine⟨_,_,WeakL.frz 13 rfl rfl rfl WeakL.refl,?_⟩
  refine go_o ?_
  repeat' first|refine st ?_|((with_reducible apply go_i);conv=>whnf)|((with_reducible first|apply k_nc|apply k_cs);(·first|exact hAL _|exact hBL _);(try rintro _ _ ⟨rfl,rfl⟩))|((with_reducible apply k_pr);(·first|exact hAL _|exact hBL _))|refine⟨λ_=>?_,λ_=>?_⟩|fail
  all_goals exact⟨rfl,rfl⟩
theorem rcv_m(ds:List D)(g:FuncId):∀a∈[AV.agg (ds.map .d),.bcl g 0],a.bnd2 1:=by
 intro a ha
 simp only[List.mem_cons,List.not_mem_nil,or_false] at ha
 rcases ha with rfl|rfl
 ·exact bnd_ds _ _
 ·simp[AV.bnd2,AV.bnd1]
theorem C.push_o(din:D)(Φ:Pl->Pl)(op n:Int)(pred:Ex)(ins:List Pl)(hop:op≠3)(hpb:pred.bk<=1048576)(hil:ins.length<=1048576)(hf:∀x∈ins,CallSpec Tryz.prog N.poptimize_rewriter_push [.ptr 0 0,x.av] (rcv din) (λr os=>r=(Φ x).av/\os=rcv din)) :
  CallSpec Tryz.prog N.poptimize_rewriter_push [.ptr 0 0,(pl0 op n pred ins).av] (rcv din) (λr os=>r=(pl0 op n (shf 0 pred) (ins.map Φ)).av/\os=rcv din):=by
 have hM:=C.mapped0 N.poptimize_rewriter_push Φ din op n pred hpb ins hil hf
 have hML:=λrest=>rcvK hM (rcv_m _ _) (λf=>mA_ds f _) rest
 clear hM hf
 obtain⟨e2,he2⟩:∃e,e=shf 0 pred:=⟨_,rfl⟩
 rw[<- he2] at hML ⊢
 clear he2 hpb
 obtain⟨xo,xn,xv,xm,xl,xa⟩:=pred
 obtain⟨yo,yn,yv,ym,yl,ya⟩:=e2
 have e1:=pl0_av op n xo xn xv xm xl xa ins
 have e2:=pl0_av op n yo yn yv ym yl ya (ins.map Φ)
 rw[e1,e2] at hML ⊢
 obtain⟨xd,hxd⟩:∃d,d=ng xl (xL xa):=⟨_,rfl⟩
 obtain⟨yd,hyd⟩:∃d,d=ng yl (xL ya):=⟨_,rfl⟩
 obtain⟨d1,hd1⟩:∃d,d=ng true (pL ins):=⟨_,rfl⟩
 obtain⟨d2,hd2⟩:∃d,d=ng true (pL (ins.map Φ)):=⟨_,rfl⟩
 rw[<- hxd,<- hyd,<- hd1,<- hd2] at hML ⊢
 clear hxd hyd hd1 hd2 e1 e2
 have r0:xv.k=xv.k:=rfl
 have r1:xv.s=xv.s:=rfl
 have r2:xm=xm:=rfl
 have r3:yv.s=yv.s:=rfl
 have r4:ym=ym:=rfl
 refine F.poptimize_rewriter_push.goX mixed rfl ?_
 repeat' first|refine st ?_|((with_reducible apply go_i);conv=>whnf)|((with_reducible first|apply k_nc|apply k_cs);(·exact hML _);(try rintro _ _ ⟨rfl,rfl⟩))|((with_reducible apply k_pr);(·exact hML _))|refine⟨λ_=>?_,λ_=>?_⟩|fail
 all_goals first|exact⟨rfl,rfl⟩|(exfalso;omega)
theorem C.push_f(K:List Kw)(hK:K.length<=4194304)(hKb:∀k∈K,k.ks.length<=4194304)(din:D)(hin:SlD din (eKw K))(n:Int)(pred:Ex)(a b q:Pl)(hpb:pred.bk<=1048576)(hpb2:(shf 0 pred).bk<=1048576)(hbb:b.bk<=1048576)(hf:CallSpec Tryz.prog N.poptimize_rewriter_push [.ptr 0 0,a.av] (rcv din) (λr os=>r=b.av/\os=rcv din))
  (hP:CallSpec Tryz.prog N.poptimize_rewriter_place [.ptr 0 0,tyA b (cpF K b).1.d,.d (nsl (xL ((cj (shf 0 pred)).map (shf 0))))] (rcv din) (λr os=>r=q.av/\os=rcv din)) :
  CallSpec Tryz.prog N.poptimize_rewriter_push [.ptr 0 0,(pl0 3 n pred [a]).av] (rcv din) (λr os=>r=q.av/\os=rcv din):=by
 have hM:=C.mapped0 N.poptimize_rewriter_push (λ_=>b) din 3 n pred hpb [a] (by simp) (λx hx=>by rw[List.mem_singleton.1 hx];exact hf)
 have hML:=λrest=>rcvK hM (rcv_m _ _) (λf=>mA_ds f _) rest
 have hT:=C.typed K hK hKb din hin b hbb
 have hC:=C.predicate_Conjuncts (shf 0 pred) hpb2
 have hTL:=λrest=>rcvK hT (rcv_a _) (λf=>by rw[tyA_ds];exact mA_ds f _) rest
 have hPL:=λrest=>rcvK hP (by rw[tyA_ds];exact rcv_b _ _) (λf=>mA_ds f _) rest
 clear hM hf hT hP
 obtain⟨d,hd⟩:∃d,d=nsl (xL ((cj (shf 0 pred)).map (shf 0))):=⟨_,rfl⟩
 rw[<- hd] at hC hPL
 clear hd
 obtain⟨kd,hkd⟩:∃d,d=(cpF K b).1.d:=⟨_,rfl⟩
 rw[<- hkd] at hTL hPL
 clear hkd
 obtain⟨e2,he2⟩:∃e,e=shf 0 pred:=⟨_,rfl⟩
 rw[<- he2] at hML hC
 clear he2 hpb hpb2
 obtain⟨xo,xn,xv,xm,xl,xa⟩:=pred
 obtain⟨yo,yn,yv,ym,yl,ya⟩:=e2
 have e1:=pl0_av 3 n xo xn xv xm xl xa [a]
 have e2:=pl0_av 3 n yo yn yv ym yl ya [b]
 have hML:∀rest,CallSpec Tryz.prog N.optimize_mapped [(pl0 3 n (.mk xo xn xv xm xl xa) [a]).av,.bcl N.poptimize_rewriter_push 0] (rcv din++rest) (λr' os'=>r'=(pl0 3 n (.mk yo yn yv ym yl ya) [b]).av/\os'=rcv din++rest):=hML
 rw[e1,e2] at hML
 rw[e1]
 rw[Ex.av_mk] at hC
 unfold tyA at hTL hPL
 obtain⟨xd,hxd⟩:∃d,d=ng xl (xL xa):=⟨_,rfl⟩
 obtain⟨yd,hyd⟩:∃d,d=ng yl (xL ya):=⟨_,rfl⟩
 have e3:ng true (pL [a])=.sl [a.ds]:=rfl
 have e4:ng true (pL [b])=.sl [b.ds]:=rfl
 rw[<- hxd,<- hyd,e3,e4] at hML
 rw[<- hxd,e3]
 rw[<- hyd] at hC
 clear hxd hyd e1 e2 e3 e4
 obtain⟨ao,an,ak,ar,axo,axn,axv,axm,axd,adx,ady,ada,adi,a1,a2⟩:=Pl.cut a
 obtain⟨bo,bn,bk',br,bxo,bxn,bxv,bxm,bxd,bdx,bdy,bda,bdi,b1,b2⟩:=Pl.cut b
 obtain⟨fo,fn,fk,fr,fxo,fxn,fxv,fxm,fxd,fdx,fdy,fda,fdi,f1,f2⟩:=Pl.cut q
 rw[a1] at hML ⊢
 rw[b1] at hML hTL hPL
 rw[b2] at hTL
 rw[f2] at hPL ⊢
 clear a1 a2 b1 b2 f1 f2
 have r0:xv.k=xv.k:=rfl
 have r1:xv.s=xv.s:=rfl
 have r2:xm=xm:=rfl
 have r3:yv.s=yv.s:=rfl
 have r4:ym=ym:=rfl
 refine F.poptimize_rewriter_push.goX mixed rfl ?_
 repeat' first|refine st ?_|((with_reducible apply go_i);conv=>whnf)|((with_reducible first|apply k_nc|apply k_cs);(·first|exact hML _|exact hTL _|exact hPL _);(try rintro _ _ ⟨rfl,rfl⟩))|((with_reducible apply k_pr);(·first|exact hML _|exact hTL _|exact hPL _))|refine⟨λ_=>?_,λ_=>?_⟩|fail
 all_goals first|exact⟨rfl,rfl⟩|(exfalso;omega)
theorem C.safe_ok(K:List Kw)(hK:K.length<=4194304)(hKb:∀k∈K,k.ks.length<=4194304)(din:D)(hin:SlD din (eKw K))(g:FuncId)(p q:Pl)(hpb:p.bk<=1048576)(hqb:q.bk<=1048576)(hg:CallSpec Tryz.prog g [.ptr 0 0,p.av] (rcv din) (λr os=>r=q.av/\os=rcv din))
  (h1:(cpF K p).2=0) (h2:(cpF K q).2=0) (h3:(cpF K p).1.ks=(cpF K q).1.ks) (h4:(cpF K p).1.ks.length<=48) :
  CallSpec Tryz.prog N.poptimize_rewriter_safe [.ptr 0 0,p.av,.bcl g 0] (rcv din) (λr os=>r=q.av/\os=rcv din):=by
 have hCp:=C.snapshot_Check K hK hKb din hin p hpb
 have hCq:=C.snapshot_Check K hK hKb din hin q hqb
 have hE:=C.slices_EqualI (cpF K p).1.ks (cpF K q).1.ks (by omega) (by rw[<- h3];omega) (cpF K p).1.d (cpF K q).1.d sld_ng sld_ng
 rw[decide_eq_true h3] at hE
 rw[h1] at hCp
 rw[h2] at hCq
 obtain⟨kp,hkp⟩:∃d,d=(cpF K p).1.d:=⟨_,rfl⟩
 obtain⟨kq,hkq⟩:∃d,d=(cpF K q).1.d:=⟨_,rfl⟩
 rw[<- hkp] at hCp hE
 rw[<- hkq] at hCq hE
 clear hkp hkq h1 h2 h3 h4
 have hgL:=λrest=>rcvK hg (rcv_a _) (λf=>mA_ds f _) rest
 clear hg
 obtain⟨ao,an,ak,ar,axo,axn,axv,axm,axd,adx,ady,ada,adi,a1,a2⟩:=Pl.cut p
 obtain⟨bo,bn,bk',br,bxo,bxn,bxv,bxm,bxd,bdx,bdy,bda,bdi,b1,b2⟩:=Pl.cut q
 rw[a2] at hCp hgL ⊢
 rw[b2] at hCq hgL ⊢
 clear a1 a2 b1 b2
 have r0:axv.s=axv.s:=rfl
 have r1:axm=axm:=rfl
 have r2:bxv.s=bxv.s:=rfl
 have r3:bxm=bxm:=rfl
 refine F.poptimize_rewriter_safe.goX mixed rfl ?_
 repeat' first|refine st ?_|((with_reducible apply go_i);conv=>whnf)|((with_reducible first|apply k_nc|apply k_cs);(·exact hgL _);(try rintro _ _ ⟨rfl,rfl⟩))|((with_reducible apply k_pr);(·exact hgL _))|refine⟨λ_=>?_,λ_=>?_⟩|fail
 all_goals exact⟨rfl,rfl⟩
theorem C.optimize_Push(K:List Kw)(hK:K.length<=4194304)(hKb:∀k∈K,k.ks.length<=4194304)(din:D)(hin:SlD din (eKw K))(p q:Pl)(hpb:p.bk<=1048576)(hqb:q.bk<=1048576)(hg:CallSpec Tryz.prog N.poptimize_rewriter_push [.ptr 0 0,p.av] (rcv din) (λr os=>r=q.av/\os=rcv din))
  (h1:(cpF K p).2=0) (h2:(cpF K q).2=0) (h3:(cpF K p).1.ks=(cpF K q).1.ks) (h4:(cpF K p).1.ks.length<=48):Pure Tryz.prog N.optimize_Push [p.av,.d din] q.av:=by
 have hS:=C.safe_ok K hK hKb din hin _ p q hpb hqb hg h1 h2 h3 h4
 have hm1:∀(ds:List D) n,[AV.ptr 0 0,.agg (ds.map .d),.bcl N.poptimize_rewriter_push 0].map (mG (rn [2] n))=[.ptr 2 0,.agg (ds.map .d),.bcl N.poptimize_rewriter_push 2]:=λds n=>by
  rw[List.map_cons,List.map_cons,List.map_cons,List.map_nil,mG_ds];rfl
 have hSL:=λos (ho:os[2]?=some (AO.cells [.d din]))=>rcvL 2 hS (hm1 p.ds) (λa ha=>by
  simp only[List.mem_cons,List.not_mem_nil,or_false] at ha
  rcases ha with rfl|rfl|rfl
  ·simp[AV.bnd2,AV.bnd1]
  ·exact bnd_ds _ _
  ·simp[AV.bnd2,AV.bnd1]) (λf=>mA_ds f _) os ho
 clear hS hm1 hg
 obtain⟨ao,an,ak,ar,axo,axn,axv,axm,axd,adx,ady,ada,adi,a1,a2⟩:=Pl.cut p
 obtain⟨bo,bn,bk',br,bxo,bxn,bxv,bxm,bxd,bdx,bdy,bda,bdi,b1,b2⟩:=Pl.cut q
 have hSL:∀os:List AO,os[2]?=some (AO.cells [.d din])->CallSpec Tryz.prog N.poptimize_rewriter_safe [.ptr 2 0,ePl ao an ak ar axo axn axv axm axd adx ady ada adi,.bcl N.poptimize_rewriter_push 2] os (λr' os'=>r'=ePl bo bn bk' br bxo bxn bxv bxm bxd bdx bdy bda bdi/\os'=os):=λos ho=>by
  have:=hSL os ho
  rw[a1] at this
  rw[<- b2]
  exact this
 rw[a2,b2]
 clear a1 a2 b1 b2
 have r0:axv.s=axv.s:=rfl
 have r1:axm=axm:=rfl
 have r2:bxv.s=bxv.s:=rfl
 have r3:bxm=bxm:=rfl
 refine F.optimize_Push.go mixed rfl ?_
 repeat' first|refine st ?_|((with_reducible apply go_i);conv=>whnf)|((with_reducible first|apply k_nc|apply k_cs);(·exact hSL _ rfl);(try rintro _ _ ⟨rfl,rfl⟩))|((with_reducible apply k_pr);(·exact hSL _ rfl))|refine⟨λ_=>?_,λ_=>?_⟩|fail
 all_goals rfl
end Go.Proofs
end
section
namespace Go.Proofs
open Go.Bi
theorem C.optimize_copied(l:List Ex)(hl:l.length<=1048576)(hb:∀x∈l,x.bk<=1048576)(d:D)(hd:SlD d (xL l)):Pure Tryz.prog N.optimize_copied [.d d] (.d (ng true (xL (l.map (shf 0))))):=by
 have hSh:=λx hx=>C.expr_Shift x (hb x hx) 0
 have lL:=xL_len l
 have mL:=xL_mem l
 have gL:=λi x=>@xL_get l i x
 obtain⟨es,hes⟩:∃z,z=xL l:=⟨_,rfl⟩
 rw[<- hes] at hd lL mL gL
 clear hes hb
 refine F.optimize_copied.go mixed rfl ?_
 repeat' first|refine st ?_|((with_reducible apply go_i);conv=>whnf)|refine⟨λ_=>?_,λ_=>?_⟩|fail
 refine x_nil 3 7 rfl rfl ?_
 refine x_loop1 mixed Lt.optimize_copied_l0 Lk.optimize_copied_l0 (λ(i:Nat)=>[.arr 0 (xL ((l.take i).map (shf 0))).length,.d (eI i)]) (λi=>[.arr (xL ((l.take i).map (shf 0))) 7 0 (xL ((l.take i).map (shf 0))).isEmpty]) (λi=>i<=l.length) (λi=>l.length-i) 0 rfl rfl rfl rfl (λ_ _=>⟨rfl,rfl⟩) rfl (by omega) ?_
 repeat' first|refine st ?_|((with_reducible apply go_i);conv=>whnf)|refine⟨λ_=>?_,λ_=>?_⟩|fail
 intro i i1
 have hw1:(xL ((l.take i).map (shf 0))).length=i:=by rw[xL_len,List.length_map,List.length_take];omega
 have hwm:=xL_mem ((l.take i).map (shf 0))
 have hbd:((xL ((l.take i).map (shf 0))).length+1)*88<=140737488355328:=by omega
 cases hx:l[i]? with
 |some x=>
  have hlt:=(List.getElem?_eq_some_iff.1 hx).1
  have hilt:(i:Int)<es.length:=by omega
  have hg:=gL i x hx
  have hS:=hSh x (List.mem_of_getElem? hx)
  have ht:xL ((l.take (i+1)).map (shf 0))=xL ((l.take i).map (shf 0))++[(shf 0 x).ds]:=by rw[List.take_add_one,hx];simp[xL]
  obtain⟨A,hA'⟩:∃z,z=xL ((l.take i).map (shf 0)):=⟨_,rfl⟩
  rw[<- hA'] at hw1 hwm hbd ht ⊢
  obtain⟨y,hy⟩:∃y,y=shf 0 x:=⟨_,rfl⟩
  rw[<- hy] at hS ht
  clear hy gL hx hA' hSh
  obtain⟨x1,x2,x3,x4,x5,x6⟩:=x
  obtain⟨y1,y2,y3,y4,y5,y6⟩:=y
  rw[Ex.av_mk,Ex.av_mk] at hS
  rw[Ex.ds_mk] at hg ht
  have hg:es[((i:Nat):Int).toNat]?=some (xds x1 x2 x3 x4 (ng x5 (xL x6))):=hg
  obtain⟨z1,hz1⟩:∃d,d=ng x5 (xL x6):=⟨_,rfl⟩
  obtain⟨z2,hz2⟩:∃d,d=ng y5 (xL y6):=⟨_,rfl⟩
  rw[<- hz1,<- hz2] at hS
  rw[<- hz1] at hg
  rw[<- hz2] at ht
  clear hz1 hz2
  repeat' first|refine st ?_|((with_reducible apply go_i);conv=>whnf)|refine⟨λ_=>?_,λ_=>?_⟩|fail
  exact⟨i+1,by rw[ht];simp,rfl,by rw[ht];simp,by omega,by omega⟩
 |none=>
  have hge:=List.getElem?_eq_none_iff.1 hx
  have hilt:(es.length:Int)<=i:=by omega
  rw[List.take_of_length_le hge] at hw1 hwm hbd ⊢
  obtain⟨A,hA'⟩:∃z,z=xL (l.map (shf 0)):=⟨_,rfl⟩
  rw[<- hA'] at hw1 hwm hbd ⊢
  clear gL hx hA' hSh
  repeat' first|refine st ?_|((with_reducible apply go_i);conv=>whnf)|refine⟨λ_=>?_,λ_=>?_⟩|fail
  all_goals (cases A<;>rfl)
mutual
/-- The scans of a plan. -/
def scP:Pl->List Int
 |.mk o _ ins=>(if o.op=1 then [o.n] else [])++scPs ins
def scPs:List Pl->List Int
 |[]=>[]
 |p::r=>scP p++scPs r
end
theorem scPs_eq:∀l,scPs l=l.flatMap scP
 |[]=>by simp[scPs]
 |e::es=>by simp[scPs,scPs_eq es]
theorem scP_mk(o:Po)(ni:Bool)(ins:List Pl):scP (.mk o ni ins)=(if o.op=1 then [o.n] else [])++ins.flatMap scP:=by rw[scP,scPs_eq]
theorem scPs_le{l:List Pl}(h:∀p∈l,(scP p).length<=p.bk):(l.flatMap scP).length<=bulkLL (pL l):=by
 induction l with
 |nil=>simp
 |cons a l ih=>
  have h1:=h a (by simp)
  have h2:=ih λb hb=>h b (by simp[hb])
  rw[List.flatMap_cons,List.length_append]
  simp only[pL,List.map_cons,bulkLL]
  unfold Pl.bk at h1
  unfold pL at h2
  omega
theorem scP_bk:∀p:Pl,(scP p).length<=p.bk:=by
 refine Pl.ind λo ni ins ih=>?_
 have h1:=scPs_le ih
 have h2:=Pl.bk_mk o ni ins
 rw[scP_mk,List.length_append]
 have:(if o.op=1 then [o.n] else []).length<=1:=by split<;>simp
 omega
theorem C.optimize_Scans:∀p:Pl,p.bk<=1048576->Pure Tryz.prog N.optimize_Scans [p.av] (.d (ng true (eIs (scP p)))):=by
 refine Pl.ind λo ni ins ih hb=>?_
 have hB:=Pl.bd hb
 have hbk:∀i:Nat,((if o.op=1 then [o.n] else [])++(ins.take i).flatMap scP).length<=1048576:=λi=>by
  have h1:=scP_bk (.mk o ni ins)
  rw[scP_mk] at h1
  have h2:((ins.take i).flatMap scP).length<=(ins.flatMap scP).length:=by
   conv=>rhs;rw[<- List.take_append_drop i ins,List.flatMap_append,List.length_append]
   omega
  rw[List.length_append] at h1 ⊢
  omega
 have hq:=scP_mk o ni ins
 obtain⟨q,hqq⟩:∃q,q=scP (.mk o ni ins):=⟨_,rfl⟩
 rw[<- hqq] at hq ⊢
 clear hqq
 obtain⟨xo,xn,xv,xm,xd,hav,_⟩:=Pl.cuto o ni ins
 rw[hav]
 have hdi:SlD (ng ni (pL ins)) (pL ins):=sld_ng
 obtain⟨dk,e1⟩:∃d,d=o.dk:=⟨_,rfl⟩
 obtain⟨dr,e2⟩:∃d,d=o.dr:=⟨_,rfl⟩
 obtain⟨dx,e3⟩:∃d,d=o.dx:=⟨_,rfl⟩
 obtain⟨dy,e4⟩:∃d,d=o.dy:=⟨_,rfl⟩
 obtain⟨da,e5⟩:∃d,d=o.da:=⟨_,rfl⟩
 obtain⟨di,e6⟩:∃d,d=ng ni (pL ins):=⟨_,rfl⟩
 rw[<- e1,<- e2,<- e3,<- e4,<- e5,<- e6]
 rw[<- e6] at hdi
 clear e1 e2 e3 e4 e5 e6 hav
 have l1:=pL_len ins
 have m1:=pL_mem ins
 have g1:=λi p=>@pL_get ins i p
 obtain⟨es,hes⟩:∃z,z=pL ins:=⟨_,rfl⟩
 rw[<- hes] at hdi l1 m1 g1
 clear hes
 have hil:=hB.il
 have hsub:=hB.sub
 clear hB hb
 obtain⟨op,hop⟩:∃x,x=o.op:=⟨_,rfl⟩
 obtain⟨n,hn⟩:∃x,x=o.n:=⟨_,rfl⟩
 rw[<- hop,<- hn] at hq ⊢
 have hbk:∀i:Nat,((if op=1 then [n] else [])++(ins.take i).flatMap scP).length<=1048576:=by rw[hop,hn];exact hbk
 clear hop hn
 obtain⟨F0,hF⟩:∃z,z=if op=1 then [n] else []:=⟨_,rfl⟩
 rw[<- hF] at hq hbk
 by_cases h1:op=1
 ·subst h1
  rw[if_pos rfl] at hF
  subst hF
  refine F.optimize_Scans.go mixed rfl ?_
  repeat' first|refine st ?_|((with_reducible apply go_i);conv=>whnf)|refine⟨λ_=>?_,λ_=>?_⟩|fail
  refine x_loop1 mixed Lt.optimize_Scans_l0 Lk.optimize_Scans_l0 (λ(i:Nat)=>[.arr 2 (eIs ([n]++(ins.take i).flatMap scP)).length,.d (eI i)]) (λi=>[.cells [.d (eI 1),.d (eI n),.d dk,.d dr,.d (eI xo),.d (eI xn),.d (eI xv.k),.d (eI xv.n),.d (.str xv.s),.d (.str xm),.d xd,.d dx,.d dy,.d da,.d di],.arr [[eI n]] 1 0 false,.arr (eIs ([n]++(ins.take i).flatMap scP)) 1 0 false]) (λi=>i<=ins.length) (λi=>ins.length-i) 0 rfl rfl rfl rfl (λ_ _=>⟨rfl,rfl⟩) rfl (by omega) ?_
  repeat' first|refine st ?_|((with_reducible apply go_i);conv=>whnf)|refine⟨λ_=>?_,λ_=>?_⟩|fail
  intro i i1
  have hb1:=hbk i
  have hb2:=hbk (i+1)
  have hwl:=eIs_len ([n]++(ins.take i).flatMap scP)
  have hwm:=eIs_mem ([n]++(ins.take i).flatMap scP)
  cases hx:ins[i]? with
  |some p=>
   have hlt:=(List.getElem?_eq_some_iff.1 hx).1
   have hilt:(i:Int)<es.length:=by omega
   have hg:=g1 i p hx
   have hI:=ih p (List.mem_of_getElem? hx) (hsub p (List.mem_of_getElem? hx))
   have ht0:(ins.take (i+1)).flatMap scP=(ins.take i).flatMap scP++scP p:=by rw[List.take_add_one,hx];simp
   have ht:eIs ([n]++(ins.take (i+1)).flatMap scP)=eIs ([n]++(ins.take i).flatMap scP)++eIs (scP p):=by rw[ht0];simp[eIs]
   rw[ht0] at hb2
   have hsl:=eIs_len (scP p)
   have hsm:=eIs_mem (scP p)
   have hsd:SlD (ng true (eIs (scP p))) (eIs (scP p)):=sld_ng
   obtain⟨A,hA⟩:∃z,z=eIs ([n]++(ins.take i).flatMap scP):=⟨_,rfl⟩
   rw[<- hA] at hwl hwm ht ⊢
   have hb3:A.length+(eIs (scP p)).length<=1048576:=by
    rw[hsl,hwl]
    simp only[List.length_append] at hb2 ⊢
    omega
   obtain⟨op',n',dk',dr',xo',xn',xv',xm',xd',dx',dy',da',di',c1,c2⟩:=Pl.cut p
   have hg:es[((i:Nat):Int).toNat]?=some (ePld op' n' dk' dr' xo' xn' xv' xm' xd' dx' dy' da' di'):=by rw[<- c1];exact hg
   rw[c2] at hI
   obtain⟨B,hB⟩:∃z,z=eIs (scP p):=⟨_,rfl⟩
   rw[<- hB] at hI ht hsm hsd hb3
   obtain⟨sd,hsdd⟩:∃z,z=ng true B:=⟨_,rfl⟩
   rw[<- hsdd] at hI hsd
   have hbd:(A.length+B.length)*8<=140737488355328/\A.length+B.length<=9223372036854775807:=by omega
   clear hsl hsdd hB hA c1 c2 hx g1 ih hbk hb1 hb2 hwl
   rcases hsd with ⟨rfl,rfl⟩|rfl
   ·have hbd0:(A.length+([]:List (List D)).length)*8<=140737488355328:=hbd.1
    repeat' first|refine st ?_|((with_reducible apply go_i);conv=>whnf)|refine⟨λ_=>?_,λ_=>?_⟩|fail
    exact⟨i+1,by rw[ht];simp,rfl,by rw[ht];simp,by omega,by omega⟩
   ·repeat' first|refine st ?_|((with_reducible apply go_i);conv=>whnf)|refine⟨λ_=>?_,λ_=>?_⟩|fail
    exact⟨i+1,by rw[ht];simp,rfl,by rw[ht];simp,by omega,by omega⟩
  |none=>
   have hge:=List.getElem?_eq_none_iff.1 hx
   have hilt:(es.length:Int)<=i:=by omega
   rw[List.take_of_length_le hge] at hwl hwm hb1 ⊢
   rw[hq]
   have hne:ng true (eIs ([n]++ins.flatMap scP))=.sl (eIs ([n]++ins.flatMap scP)):=rfl
   rw[hne]
   obtain⟨A,hA⟩:∃z,z=eIs ([n]++ins.flatMap scP):=⟨_,rfl⟩
   rw[<- hA] at hwl hwm ⊢
   clear hx g1 ih hA hne
   repeat' first|refine st ?_|((with_reducible apply go_i);conv=>whnf)|refine⟨λ_=>?_,λ_=>?_⟩|fail
   all_goals rfl
 ·rw[if_neg h1] at hF
  subst hF
  have hq:q=ins.flatMap scP:=hq
  have hbk:∀i:Nat,((ins.take i).flatMap scP).length<=1048576:=hbk
  refine F.optimize_Scans.go mixed rfl ?_
  repeat' first|refine st ?_|((with_reducible apply go_i);conv=>whnf)|refine⟨λ_=>?_,λ_=>?_⟩|fail
  refine x_nil 3 1 rfl rfl ?_
  refine x_loop1 mixed Lt.optimize_Scans_l0 Lk.optimize_Scans_l0 (λ(i:Nat)=>[.arr 1 (eIs ((ins.take i).flatMap scP)).length,.d (eI i)]) (λi=>[.cells [.d (eI op),.d (eI n),.d dk,.d dr,.d (eI xo),.d (eI xn),.d (eI xv.k),.d (eI xv.n),.d (.str xv.s),.d (.str xm),.d xd,.d dx,.d dy,.d da,.d di],.arr (eIs ((ins.take i).flatMap scP)) 1 0 (eIs ((ins.take i).flatMap scP)).isEmpty]) (λi=>i<=ins.length) (λi=>ins.length-i) 0 rfl rfl rfl rfl (λ_ _=>⟨rfl,rfl⟩) rfl (by omega) ?_
  repeat' first|refine st ?_|((with_reducible apply go_i);conv=>whnf)|refine⟨λ_=>?_,λ_=>?_⟩|fail
  intro i i1
  have hb1:=hbk i
  have hb2:=hbk (i+1)
  have hwl:=eIs_len ((ins.take i).flatMap scP)
  have hwm:=eIs_mem ((ins.take i).flatMap scP)
  cases hx:ins[i]? with
  |some p=>
   have hlt:=(List.getElem?_eq_some_iff.1 hx).1
   have hilt:(i:Int)<es.length:=by omega
   have hg:=g1 i p hx
   have hI:=ih p (List.mem_of_getElem? hx) (hsub p (List.mem_of_getElem? hx))
   have ht0:(ins.take (i+1)).flatMap scP=(ins.take i).flatMap scP++scP p:=by rw[List.take_add_one,hx];simp
   have ht:eIs ((ins.take (i+1)).flatMap scP)=eIs ((ins.take i).flatMap scP)++eIs (scP p):=by rw[ht0];simp[eIs]
   rw[ht0] at hb2
   have hsl:=eIs_len (scP p)
   have hsm:=eIs_mem (scP p)
   have hsd:SlD (ng true (eIs (scP p))) (eIs (scP p)):=sld_ng
   obtain⟨A,hA⟩:∃z,z=eIs ((ins.take i).flatMap scP):=⟨_,rfl⟩
   rw[<- hA] at hwl hwm ht ⊢
   have hb3:A.length+(eIs (scP p)).length<=1048576:=by
    rw[hsl,hwl]
    simp only[List.length_append] at hb2 ⊢
    omega
   obtain⟨op',n',dk',dr',xo',xn',xv',xm',xd',dx',dy',da',di',c1,c2⟩:=Pl.cut p
   have hg:es[((i:Nat):Int).toNat]?=some (ePld op' n' dk' dr' xo' xn' xv' xm' xd' dx' dy' da' di'):=by rw[<- c1];exact hg
   rw[c2] at hI
   obtain⟨B,hB⟩:∃z,z=eIs (scP p):=⟨_,rfl⟩
   rw[<- hB] at hI ht hsm hsd hb3
   obtain⟨sd,hsdd⟩:∃z,z=ng true B:=⟨_,rfl⟩
   rw[<- hsdd] at hI hsd
   have hbd:(A.length+B.length)*8<=140737488355328/\A.length+B.length<=9223372036854775807:=by omega
   clear hsl hsdd hB hA c1 c2 hx g1 ih hbk hb1 hb2 hwl
   rcases hsd with ⟨rfl,rfl⟩|rfl
   ·have hbd0:(A.length+([]:List (List D)).length)*8<=140737488355328:=hbd.1
    repeat' first|refine st ?_|((with_reducible apply go_i);conv=>whnf)|refine⟨λ_=>?_,λ_=>?_⟩|fail
    exact⟨i+1,by rw[ht];simp,rfl,by rw[ht];cases A<;>simp,by omega,by omega⟩
   ·repeat' first|refine st ?_|((with_reducible apply go_i);conv=>whnf)|refine⟨λ_=>?_,λ_=>?_⟩|fail
    exact⟨i+1,by rw[ht];simp,rfl,by rw[ht];cases A<;>cases B<;>rfl,by omega,by omega⟩
  |none=>
   have hge:=List.getElem?_eq_none_iff.1 hx
   have hilt:(es.length:Int)<=i:=by omega
   rw[List.take_of_length_le hge] at hwl hwm hb1 ⊢
   rw[hq]
   obtain⟨A,hA⟩:∃z,z=eIs (ins.flatMap scP):=⟨_,rfl⟩
   rw[<- hA] at hwl hwm ⊢
   clear hx g1 ih hA
   repeat' first|refine st ?_|((with_reducible apply go_i);conv=>whnf)|refine⟨λ_=>?_,λ_=>?_⟩|fail
   all_goals (cases A<;>rfl)
abbrev cstX(v:Vl):Ex:=.mk 1 0 v [] true []
abbrev colX(i:Int):Ex:=.mk 2 i vNull [] true []
abbrev eqX(i n:Int):Ex:=.mk 7 0 vNull [] true [colX i,cstX ⟨1,n,[]⟩]
theorem C.law48_equals(i n:Int):Pure Tryz.prog N.bt_law48_equals [.d (eI i),.d (eI n)] (eqX i n).av:=by
 rw[Ex.av_mk]
 refine F.bt_law48_equals.go mixed rfl ?_
 repeat' first|refine st ?_|((with_reducible apply go_i);conv=>whnf)|refine⟨λ_=>?_,λ_=>?_⟩|fail
 all_goals rfl
theorem C.law48_contains1(x e:Ex)(hx:x.bk<=1048576)(he:e.bk<=1048576)(h:smE x e=true):Pure Tryz.prog N.bt_law48_contains [.d (.sl [x.ds]),e.av] (.d (.bool true)):=by
 have hS:=C.r11_Same x (by omega) e (by omega)
 rw[h] at hS
 clear h hx he
 obtain⟨x1,x2,x3,x4,x5,x6⟩:=x
 obtain⟨y1,y2,y3,y4,y5,y6⟩:=e
 rw[Ex.av_mk,Ex.av_mk] at hS
 rw[Ex.av_mk,Ex.ds_mk]
 obtain⟨z1,hz1⟩:∃d,d=ng x5 (xL x6):=⟨_,rfl⟩
 obtain⟨z2,hz2⟩:∃d,d=ng y5 (xL y6):=⟨_,rfl⟩
 rw[<- hz1,<- hz2] at hS ⊢
 clear hz1 hz2
 refine F.bt_law48_contains.go mixed rfl ?_
 repeat' first|refine st ?_|((with_reducible apply go_i);conv=>whnf)|refine⟨λ_=>?_,λ_=>?_⟩|fail
 refine x_rounds 1 (x_round mixed ?_)
 repeat' first|refine st ?_|((with_reducible apply go_i);conv=>whnf)|refine⟨λ_=>?_,λ_=>?_⟩|fail
 all_goals rfl
theorem C.filters_scan(n input:Int)(pred:Ex):Pure Tryz.prog N.optimize_filters [(pl0 1 n pred []).av,.d (eI input)] (.tup [.d .nil,.d (.bool (decide (n=input))),.d (.bool (decide (n=input)))]):=by
 obtain⟨xo,xn,xv,xm,xl,xa⟩:=pred
 rw[pl0_av]
 obtain⟨xd,hxd⟩:∃d,d=ng xl (xL xa):=⟨_,rfl⟩
 rw[<- hxd,show ng true (pL [])=.nil from rfl]
 clear hxd
 refine F.optimize_filters.go mixed rfl ?_
 repeat' first|refine st ?_|((with_reducible apply go_i);conv=>whnf)|refine⟨λ_=>?_,λ_=>?_⟩|fail
 refine x_rounds 1 (x_round mixed ?_)
 repeat' first|refine st ?_|((with_reducible apply go_i);conv=>whnf)|refine⟨λ_=>?_,λ_=>?_⟩|fail
 all_goals rfl
theorem C.filters_filter(n input:Int)(pred:Ex)(x:Pl)(b:Bool)(hx:Pure Tryz.prog N.optimize_filters [x.av,.d (eI input)] (.tup [.d .nil,.d (.bool b),.d (.bool b)])) :
  Pure Tryz.prog N.optimize_filters [(pl0 3 n pred [x]).av,.d (eI input)] (.tup [.d (if b then .sl [pred.ds] else .nil),.d (.bool b),.d (.bool b)]):=by
 obtain⟨xo,xn,xv,xm,xl,xa⟩:=pred
 rw[pl0_av,Ex.ds_mk]
 obtain⟨xd,hxd⟩:∃d,d=ng xl (xL xa):=⟨_,rfl⟩
 rw[<- hxd,show ng true (pL [x])=.sl [x.ds] from rfl]
 clear hxd
 obtain⟨ao,an,ak,ar,axo,axn,axv,axm,axd,adx,ady,ada,adi,a1,a2⟩:=Pl.cut x
 rw[a2] at hx
 rw[a1]
 clear a1 a2
 cases b with
 |true=>
  refine F.optimize_filters.go mixed rfl ?_
  repeat' first|refine st ?_|((with_reducible apply go_i);conv=>whnf)|refine⟨λ_=>?_,λ_=>?_⟩|fail
  refine x_rounds 1 (x_round mixed ?_)
  repeat' first|refine st ?_|((with_reducible apply go_i);conv=>whnf)|refine⟨λ_=>?_,λ_=>?_⟩|fail
  all_goals rfl
 |false=>
  refine F.optimize_filters.go mixed rfl ?_
  repeat' first|refine st ?_|((with_reducible apply go_i);conv=>whnf)|refine⟨λ_=>?_,λ_=>?_⟩|fail
  refine x_rounds 2 (x_round mixed ?_)
  repeat' first|refine st ?_|((with_reducible apply go_i);conv=>whnf)|refine⟨λ_=>?_,λ_=>?_⟩|fail
  refine x_round mixed ?_
  repeat' first|refine st ?_|((with_reducible apply go_i);conv=>whnf)|refine⟨λ_=>?_,λ_=>?_⟩|fail
  all_goals rfl
theorem C.filters_join(n input:Int)(pred:Ex)(x y:Pl)(b:Bool)(dx dy:D)(hx:Pure Tryz.prog N.optimize_filters [x.av,.d (eI input)] (.tup [.d dx,.d (.bool b),.d (.bool b)]))(hy:b=false->Pure Tryz.prog N.optimize_filters [y.av,.d (eI input)] (.tup [.d dy,.d (.bool true),.d (.bool true)])) :
  Pure Tryz.prog N.optimize_filters [(pl0 5 n pred [x,y]).av,.d (eI input)] (.tup [.d (if b then dx else dy),.d (.bool true),.d (.bool false)]):=by
 obtain⟨xo,xn,xv,xm,xl,xa⟩:=pred
 rw[pl0_av]
 obtain⟨xd,hxd⟩:∃d,d=ng xl (xL xa):=⟨_,rfl⟩
 rw[<- hxd,show ng true (pL [x,y])=.sl [x.ds,y.ds] from rfl]
 clear hxd
 obtain⟨ao,an,ak,ar,axo,axn,axv,axm,axd,adx,ady,ada,adi,a1,a2⟩:=Pl.cut x
 obtain⟨bo,bn,bk',br,bxo,bxn,bxv,bxm,bxd,bdx,bdy,bda,bdi,b1,b2⟩:=Pl.cut y
 rw[a2] at hx
 rw[a1,b1]
 rw[b2] at hy
 clear a1 a2 b1 b2
 cases b with
 |true=>
  clear hy
  refine F.optimize_filters.go mixed rfl ?_
  repeat' first|refine st ?_|((with_reducible apply go_i);conv=>whnf)|refine⟨λ_=>?_,λ_=>?_⟩|fail
  refine x_rounds 1 (x_round mixed ?_)
  repeat' first|refine st ?_|((with_reducible apply go_i);conv=>whnf)|refine⟨λ_=>?_,λ_=>?_⟩|fail
  all_goals rfl
 |false=>
  have hy:=hy rfl
  refine F.optimize_filters.go mixed rfl ?_
  repeat' first|refine st ?_|((with_reducible apply go_i);conv=>whnf)|refine⟨λ_=>?_,λ_=>?_⟩|fail
  refine x_rounds 2 (x_round mixed ?_)
  repeat' first|refine st ?_|((with_reducible apply go_i);conv=>whnf)|refine⟨λ_=>?_,λ_=>?_⟩|fail
  refine x_round mixed ?_
  repeat' first|refine st ?_|((with_reducible apply go_i);conv=>whnf)|refine⟨λ_=>?_,λ_=>?_⟩|fail
  all_goals rfl
end Go.Proofs
end
section
namespace Go.Proofs
open Go.Bi
theorem C.cloneDI(es:List (List D))(hl:es.length<=1048577)(hm:∀e∈es,e.length=1)(d:D)(hd:SlD d es):Pure Tryz.prog N.slices_Clone__int_int [.d d] (.d d):=by
 rcases hd with ⟨rfl,rfl⟩|rfl
 all_goals refine F.slices_Clone__int_int.go mixed rfl ?_
 all_goals repeat' first|refine st ?_|((with_reducible apply go_i);conv=>whnf)|refine⟨λ_=>?_,λ_=>?_⟩|fail
 all_goals (cases es<;>rfl)
theorem C.cloneDA(es:List (List D))(hl:es.length<=1048577)(hm:∀e∈es,e.length=2)(d:D)(hd:SlD d es):Pure Tryz.prog N.slices_Clone__api_Agg_api_Agg [.d d] (.d d):=by
 rcases hd with ⟨rfl,rfl⟩|rfl
 all_goals refine F.slices_Clone__api_Agg_api_Agg.go mixed rfl ?_
 all_goals repeat' first|refine st ?_|((with_reducible apply go_i);conv=>whnf)|refine⟨λ_=>?_,λ_=>?_⟩|fail
 all_goals (cases es<;>rfl)
theorem C.cloneDV(es:List (List D))(hl:es.length<=1048577)(hm:∀e∈es,e.length=3)(d:D)(hd:SlD d es):Pure Tryz.prog N.slices_Clone__api_Value_api_Value [.d d] (.d d):=by
 rcases hd with ⟨rfl,rfl⟩|rfl
 all_goals refine F.slices_Clone__api_Value_api_Value.go mixed rfl ?_
 all_goals repeat' first|refine st ?_|((with_reducible apply go_i);conv=>whnf)|refine⟨λ_=>?_,λ_=>?_⟩|fail
 all_goals (cases es<;>rfl)
abbrev cpO(o:Po):Po:=⟨o.op,o.n,o.nk,o.ki,true,o.rows,shf 0 o.pred,true,o.xs.map (shf 0),o.ny,o.keys,o.na,o.aggs⟩
theorem C.mappedB(g:FuncId)(Φ:Pl->Pl)(o:Po)(ni:Bool)(ins:List Pl)(hb:(Pl.mk o ni ins).bk<=1048576)(din:D)(hf:∀x∈ins,CallSpec Tryz.prog g [.ptr 0 0,x.av] (rcv din) (λr os=>r=(Φ x).av/\os=rcv din)) :
  CallSpec Tryz.prog N.optimize_mapped [(Pl.mk o ni ins).av,.bcl g 0] (rcv din) (λr os=>r=(Pl.mk (cpO o) true (ins.map Φ)).av/\os=rcv din):=by
 have hB:=Pl.bd hb
 have hil:=hB.il
 have hS:=C.expr_Shift o.pred hB.pred 0
 have hcp:=C.optimize_copied o.xs hB.xs hB.xb (ng o.nx (xL o.xs)) sld_ng
 have hk1:=C.cloneDI (eIs o.ki) (by rw[eIs_len];have:=hB.ki;omega) (eIs_mem _) (ng o.nk (eIs o.ki)) sld_ng
 have hk2:=C.cloneDI (eIs o.keys) (by rw[eIs_len];have:=hB.keys;omega) (eIs_mem _) (ng o.ny (eIs o.keys)) sld_ng
 have hk3:=C.cloneDA (eAs o.aggs) (by rw[eAs_len];have:=hB.aggs;omega) (eAs_mem _) (ng o.na (eAs o.aggs)) sld_ng
 have hk4:=λ(r:Rw) (hr:r∈o.rows)=>C.cloneDV (eVs r.vs) (by rw[eVs_len];have:=(hB.row r hr).1;omega) (eVs_mem _) r.d sld_ng
 have hrl:=hB.nr
 clear hB hb
 obtain⟨op,n,nk,ki,nr,rows,pred,nx,xs,ny,keys,na,aggs⟩:=o
 dsimp only at hS hcp hk1 hk2 hk3 hk4 hrl
 obtain⟨xo,xn,xv,xm,xl,xa⟩:=pred
 obtain⟨e2,he2⟩:∃e,e=shf 0 (.mk xo xn xv xm xl xa):=⟨_,rfl⟩
 unfold cpO
 dsimp only
 rw[<- he2] at hS ⊢
 clear he2
 obtain⟨yo,yn,yv,ym,yl,ya⟩:=e2
 rw[Ex.av_mk,Ex.av_mk] at hS
 rw[Pl.av_eq _ _ _ _ _ _ _ _ _ rfl,Pl.av_eq _ _ _ _ _ _ _ _ _ rfl]
 have hdi:SlD (ng ni (pL ins)) (pL ins):=sld_ng
 have hdr:SlD (ng nr (eRs rows)) (eRs rows):=sld_ng
 obtain⟨dk,e1⟩:∃d,d=ng nk (eIs ki):=⟨_,rfl⟩
 obtain⟨dr,e2⟩:∃d,d=ng nr (eRs rows):=⟨_,rfl⟩
 obtain⟨dx,e3⟩:∃d,d=ng nx (xL xs):=⟨_,rfl⟩
 obtain⟨dy,e4⟩:∃d,d=ng ny (eIs keys):=⟨_,rfl⟩
 obtain⟨da,e5⟩:∃d,d=ng na (eAs aggs):=⟨_,rfl⟩
 obtain⟨di,e6⟩:∃d,d=ng ni (pL ins):=⟨_,rfl⟩
 obtain⟨dx2,e7⟩:∃d,d=ng true (xL (xs.map (shf 0))):=⟨_,rfl⟩
 obtain⟨xd,hxd⟩:∃d,d=ng xl (xL xa):=⟨_,rfl⟩
 obtain⟨yd,hyd⟩:∃d,d=ng yl (xL ya):=⟨_,rfl⟩
 rw[<- hxd,<- hyd] at hS
 rw[<- e3,<- e7] at hcp
 rw[<- e1] at hk1
 rw[<- e4] at hk2
 rw[<- e5] at hk3
 rw[<- e6] at hdi
 rw[<- e2] at hdr
 have hgoal:CallSpec Tryz.prog N.optimize_mapped [ePl op n dk dr xo xn xv xm xd dx dy da di,.bcl g 0] (rcv din) (λr os=>r=ePl op n dk (ng true (eRs rows)) yo yn yv ym yd dx2 dy da (ng true (pL (ins.map Φ)))/\os=rcv din):=by
  clear e1 e2 e3 e4 e5 e6 e7 hxd hyd
  have l1:=pL_len ins
  have m1:=pL_mem ins
  have g1:=λi p=>@pL_get ins i p
  obtain⟨es,hes⟩:∃z,z=pL ins:=⟨_,rfl⟩
  rw[<- hes] at hdi l1 m1 g1
  have l2:=eRs_len rows
  have m2:=eRs_mem rows
  have g2:=λi p=>@eRs_get rows i p
  obtain⟨rs,hrs⟩:∃z,z=eRs rows:=⟨_,rfl⟩
  rw[<- hrs] at hdr l2 m2 g2
  have hrs2:=hrs
  clear hes hrs
  have r0:xv.k=xv.k:=rfl
  have r1:xv.s=xv.s:=rfl
  have r2:xm=xm:=rfl
  have r3:yv.s=yv.s:=rfl
  have r4:ym=ym:=rfl
  refine F.optimize_mapped.goX mixed rfl ?_
  repeat' first|refine st ?_|((with_reducible apply go_i);conv=>whnf)|refine⟨λ_=>?_,λ_=>?_⟩|fail
  refine x_nilcc 3 3 1 rfl rfl rfl ?_
  refine x_loop1 mixed Lt.optimize_mapped_l0 Lk.optimize_mapped_l0 (λ(i:Nat)=>[.d (eI i)]) (λi=>[.cells [.d din],.cells [.d (eI op),.d (eI n),.d dk,.d dr,.d (eI xo),.d (eI xn),.d (eI xv.k),.d (eI xv.n),.d (.str xv.s),.d (.str xm),.d xd,.d dx,.d dy,.d da,.d di],.cells [.d (eI 0),.d (eI 0),.d .nil,.d .nil,.d (eI 0),.d (eI 0),.d (eI 0),.d (eI 0),.d (.str []),.d (.str []),.d .nil,.d .nil,.d .nil,.d .nil,.d .nil],.cells [.d (eI op),.d (eI n),.d dk,.arr 8 (eRs (rows.take i)).length,.d (eI yo),.d (eI yn),.d (eI yv.k),.d (eI yv.n),.d (.str yv.s),.d (.str ym),.d yd,.d dx2,.d dy,.d da,.d .nil],.hole,.hole,.hole,.hole,.arr (eRs (rows.take i)) 1 0 (eRs (rows.take i)).isEmpty]) (λi=>i<=rows.length) (λi=>rows.length-i) 0 rfl rfl rfl rfl (λ_ _=>⟨rfl,rfl⟩) rfl (by omega) ?_
  repeat' first|refine st ?_|((with_reducible apply go_i);conv=>whnf)|refine⟨λ_=>?_,λ_=>?_⟩|fail
  intro i i1
  have hw1:(eRs (rows.take i)).length=i:=by rw[eRs_len,List.length_take];omega
  have hwm:=eRs_mem (rows.take i)
  have hbd:((eRs (rows.take i)).length+1)*24<=140737488355328:=by omega
  cases hx:rows[i]? with
  |some r=>
   have hlt:=(List.getElem?_eq_some_iff.1 hx).1
   have hilt:(i:Int)<rs.length:=by omega
   have hg:rs[((i:Nat):Int).toNat]?=some [r.d]:=g2 i r hx
   have hK:=hk4 r (List.mem_of_getElem? hx)
   have ht:eRs (rows.take (i+1))=eRs (rows.take i)++[[r.d]]:=by rw[List.take_add_one,hx];simp[eRs]
   obtain⟨A,hA⟩:∃z,z=eRs (rows.take i):=⟨_,rfl⟩
   rw[<- hA] at hw1 hwm hbd ht ⊢
   obtain⟨rd,hrd⟩:∃d,d=r.d:=⟨_,rfl⟩
   rw[<- hrd] at hg hK ht
   clear g1 g2 hx hA hf hrd hS hcp hk1 hk2 hk3 hk4 hrs2
   repeat' first|refine st ?_|((with_reducible apply go_i);conv=>whnf)|refine⟨λ_=>?_,λ_=>?_⟩|fail
   exact⟨i+1,rfl,rfl,by rw[ht];simp,by omega,by omega⟩
  |none=>
   have hge:=List.getElem?_eq_none_iff.1 hx
   have hilt:(rs.length:Int)<=i:=by omega
   rw[List.take_of_length_le hge,<- hrs2] at hw1 hwm hbd ⊢
   obtain⟨ww,hww⟩:∃z,z=rs:=⟨_,rfl⟩
   rw[<- hww] at hw1 hwm hbd ⊢
   clear hx hk1 hk2 hk3 hk4 hS hcp g2 hww hrs2
   repeat' first|refine st ?_|((with_reducible apply go_i);conv=>whnf)|refine⟨λ_=>?_,λ_=>?_⟩|fail
   refine x_nilcc 3 14 15 rfl rfl rfl ?_
   refine x_loop1 mixed Lt.optimize_mapped_l1 Lk.optimize_mapped_l1 (λ(i:Nat)=>[.d (eI i)]) (λi=>[.cells [.d din],.cells [.d (eI op),.d (eI n),.d dk,.d dr,.d (eI xo),.d (eI xn),.d (eI xv.k),.d (eI xv.n),.d (.str xv.s),.d (.str xm),.d xd,.d dx,.d dy,.d da,.d di],.cells [.d (eI 0),.d (eI 0),.d .nil,.d .nil,.d (eI 0),.d (eI 0),.d (eI 0),.d (eI 0),.d (.str []),.d (.str []),.d .nil,.d .nil,.d .nil,.d .nil,.d .nil],.cells [.d (eI op),.d (eI n),.d dk,.arr 8 ww.length,.d (eI yo),.d (eI yn),.d (eI yv.k),.d (eI yv.n),.d (.str yv.s),.d (.str ym),.d yd,.d dx2,.d dy,.d da,.arr 9 (pL ((ins.take i).map Φ)).length],.hole,.hole,.hole,.hole,.arr ww 1 0 ww.isEmpty,.arr (pL ((ins.take i).map Φ)) 15 0 (pL ((ins.take i).map Φ)).isEmpty]) (λi=>i<=ins.length) (λi=>ins.length-i) 0 rfl rfl rfl rfl (λ_ _=>⟨rfl,rfl⟩) rfl (by omega) ?_
   repeat' first|refine st ?_|((with_reducible apply go_i);conv=>whnf)|refine⟨λ_=>?_,λ_=>?_⟩|fail
   intro i i1
   have hv1:(pL ((ins.take i).map Φ)).length=i:=by rw[pL_len,List.length_map,List.length_take];omega
   have hvm:=pL_mem ((ins.take i).map Φ)
   have hbd2:((pL ((ins.take i).map Φ)).length+1)*248<=140737488355328:=by omega
   cases hx:ins[i]? with
   |some p=>
    have hlt:=(List.getElem?_eq_some_iff.1 hx).1
    have hilt:(i:Int)<es.length:=by omega
    have hg:=g1 i p hx
    have hL:=λrest=>liftRc (hf p (List.mem_of_getElem? hx)) (λf=>mA_ds f _) rest
    have ht:pL ((ins.take (i+1)).map Φ)=pL ((ins.take i).map Φ)++[(Φ p).ds]:=by rw[List.take_add_one,hx];simp[pL]
    obtain⟨A,hA⟩:∃z,z=pL ((ins.take i).map Φ):=⟨_,rfl⟩
    rw[<- hA] at hv1 hvm hbd2 ht ⊢
    obtain⟨op',n',dk',dr',xo',xn',xv',xm',xd',dx',dy',da',di',c1,c2⟩:=Pl.cut p
    obtain⟨op1,n1,dk1,dr1,xo1,xn1,xv1,xm1,xd1,dx1,dy1,da1,di1,c3,c4⟩:=Pl.cut (Φ p)
    have hg:es[((i:Nat):Int).toNat]?=some (ePld op' n' dk' dr' xo' xn' xv' xm' xd' dx' dy' da' di'):=by rw[<- c1];exact hg
    have hL:∀rest,CallSpec Tryz.prog g [.ptr 0 0,ePl op' n' dk' dr' xo' xn' xv' xm' xd' dx' dy' da' di'] ([.cells [.d din]]++rest) (λr' os'=>r'=ePl op1 n1 dk1 dr1 xo1 xn1 xv1 xm1 xd1 dx1 dy1 da1 di1/\os'=[.cells [.d din]]++rest):=λrest=>by rw[<- c2,<- c4];exact hL rest
    rw[c3] at ht
    clear g1 hx hA hf c1 c2 c3 c4
    repeat' first|refine st ?_|((with_reducible apply go_i);conv=>whnf)|((with_reducible first|apply k_nc|apply k_cs);(·exact hL _);(try rintro _ _ ⟨rfl,rfl⟩))|((with_reducible apply k_pr);(·exact hL _))|refine⟨λ_=>?_,λ_=>?_⟩|fail
    exact⟨i+1,rfl,rfl,by rw[ht];simp,by omega,by omega⟩
   |none=>
    have hge:=List.getElem?_eq_none_iff.1 hx
    have hilt:(es.length:Int)<=i:=by omega
    rw[List.take_of_length_le hge] at hv1 hvm hbd2 ⊢
    obtain⟨A,hA⟩:∃z,z=pL (ins.map Φ):=⟨_,rfl⟩
    rw[<- hA] at hv1 hvm hbd2 ⊢
    clear g1 hx hA hf
    repeat' first|refine st ?_|((with_reducible apply go_i);conv=>whnf)|refine⟨λ_=>?_,λ_=>?_⟩|fail
    all_goals exact⟨by cases ww<;>cases A<;>rfl,rfl⟩
 rw[e1,e2,e3,e4,e5,e6,e7,hxd,hyd] at hgoal
 exact hgoal
theorem C.mappedF(g:FuncId)(Φ:Pl->Pl)(o:Po)(ni:Bool)(ins:List Pl)(hb:(Pl.mk o ni ins).bk<=1048576)(hf:∀x∈ins,Pure Tryz.prog g [x.av] (Φ x).av) :
  Pure Tryz.prog N.optimize_mapped [(Pl.mk o ni ins).av,.d (.fn g)] (Pl.mk (cpO o) true (ins.map Φ)).av:=by
 have hB:=Pl.bd hb
 have hil:=hB.il
 have hS:=C.expr_Shift o.pred hB.pred 0
 have hcp:=C.optimize_copied o.xs hB.xs hB.xb (ng o.nx (xL o.xs)) sld_ng
 have hk1:=C.cloneDI (eIs o.ki) (by rw[eIs_len];have:=hB.ki;omega) (eIs_mem _) (ng o.nk (eIs o.ki)) sld_ng
 have hk2:=C.cloneDI (eIs o.keys) (by rw[eIs_len];have:=hB.keys;omega) (eIs_mem _) (ng o.ny (eIs o.keys)) sld_ng
 have hk3:=C.cloneDA (eAs o.aggs) (by rw[eAs_len];have:=hB.aggs;omega) (eAs_mem _) (ng o.na (eAs o.aggs)) sld_ng
 have hk4:=λ(r:Rw) (hr:r∈o.rows)=>C.cloneDV (eVs r.vs) (by rw[eVs_len];have:=(hB.row r hr).1;omega) (eVs_mem _) r.d sld_ng
 have hrl:=hB.nr
 clear hB hb
 obtain⟨op,n,nk,ki,nr,rows,pred,nx,xs,ny,keys,na,aggs⟩:=o
 dsimp only at hS hcp hk1 hk2 hk3 hk4 hrl
 obtain⟨xo,xn,xv,xm,xl,xa⟩:=pred
 obtain⟨e2,he2⟩:∃e,e=shf 0 (.mk xo xn xv xm xl xa):=⟨_,rfl⟩
 unfold cpO
 dsimp only
 rw[<- he2] at hS ⊢
 clear he2
 obtain⟨yo,yn,yv,ym,yl,ya⟩:=e2
 rw[Ex.av_mk,Ex.av_mk] at hS
 rw[Pl.av_eq _ _ _ _ _ _ _ _ _ rfl,Pl.av_eq _ _ _ _ _ _ _ _ _ rfl]
 have hdi:SlD (ng ni (pL ins)) (pL ins):=sld_ng
 have hdr:SlD (ng nr (eRs rows)) (eRs rows):=sld_ng
 obtain⟨dk,e1⟩:∃d,d=ng nk (eIs ki):=⟨_,rfl⟩
 obtain⟨dr,e2⟩:∃d,d=ng nr (eRs rows):=⟨_,rfl⟩
 obtain⟨dx,e3⟩:∃d,d=ng nx (xL xs):=⟨_,rfl⟩
 obtain⟨dy,e4⟩:∃d,d=ng ny (eIs keys):=⟨_,rfl⟩
 obtain⟨da,e5⟩:∃d,d=ng na (eAs aggs):=⟨_,rfl⟩
 obtain⟨di,e6⟩:∃d,d=ng ni (pL ins):=⟨_,rfl⟩
 obtain⟨dx2,e7⟩:∃d,d=ng true (xL (xs.map (shf 0))):=⟨_,rfl⟩
 obtain⟨xd,hxd⟩:∃d,d=ng xl (xL xa):=⟨_,rfl⟩
 obtain⟨yd,hyd⟩:∃d,d=ng yl (xL ya):=⟨_,rfl⟩
 rw[<- hxd,<- hyd] at hS
 rw[<- e3,<- e7] at hcp
 rw[<- e1] at hk1
 rw[<- e4] at hk2
 rw[<- e5] at hk3
 rw[<- e6] at hdi
 rw[<- e2] at hdr
 have hgoal:Bi.Pure Tryz.prog N.optimize_mapped [ePl op n dk dr xo xn xv xm xd dx dy da di,.d (.fn g)] (ePl op n dk (ng true (eRs rows)) yo yn yv ym yd dx2 dy da (ng true (pL (ins.map Φ)))):=by
  clear e1 e2 e3 e4 e5 e6 e7 hxd hyd
  have l1:=pL_len ins
  have m1:=pL_mem ins
  have g1:=λi p=>@pL_get ins i p
  obtain⟨es,hes⟩:∃z,z=pL ins:=⟨_,rfl⟩
  rw[<- hes] at hdi l1 m1 g1
  have l2:=eRs_len rows
  have m2:=eRs_mem rows
  have g2:=λi p=>@eRs_get rows i p
  obtain⟨rs,hrs⟩:∃z,z=eRs rows:=⟨_,rfl⟩
  rw[<- hrs] at hdr l2 m2 g2
  have hrs2:=hrs
  clear hes hrs
  have r0:xv.k=xv.k:=rfl
  have r1:xv.s=xv.s:=rfl
  have r2:xm=xm:=rfl
  have r3:yv.s=yv.s:=rfl
  have r4:ym=ym:=rfl
  refine F.optimize_mapped.go mixed rfl ?_
  repeat' first|refine st ?_|((with_reducible apply go_i);conv=>whnf)|refine⟨λ_=>?_,λ_=>?_⟩|fail
  refine x_nilcc 2 3 1 rfl rfl rfl ?_
  refine x_loop1 mixed Lt.optimize_mapped_l0 Lk.optimize_mapped_l0 (λ(i:Nat)=>[.d (eI i)]) (λi=>[.cells [.d (eI op),.d (eI n),.d dk,.d dr,.d (eI xo),.d (eI xn),.d (eI xv.k),.d (eI xv.n),.d (.str xv.s),.d (.str xm),.d xd,.d dx,.d dy,.d da,.d di],.cells [.d (eI 0),.d (eI 0),.d .nil,.d .nil,.d (eI 0),.d (eI 0),.d (eI 0),.d (eI 0),.d (.str []),.d (.str []),.d .nil,.d .nil,.d .nil,.d .nil,.d .nil],.cells [.d (eI op),.d (eI n),.d dk,.arr 7 (eRs (rows.take i)).length,.d (eI yo),.d (eI yn),.d (eI yv.k),.d (eI yv.n),.d (.str yv.s),.d (.str ym),.d yd,.d dx2,.d dy,.d da,.d .nil],.hole,.hole,.hole,.hole,.arr (eRs (rows.take i)) 1 0 (eRs (rows.take i)).isEmpty]) (λi=>i<=rows.length) (λi=>rows.length-i) 0 rfl rfl rfl rfl (λ_ _=>⟨rfl,rfl⟩) rfl (by omega) ?_
  repeat' first|refine st ?_|((with_reducible apply go_i);conv=>whnf)|refine⟨λ_=>?_,λ_=>?_⟩|fail
  intro i i1
  have hw1:(eRs (rows.take i)).length=i:=by rw[eRs_len,List.length_take];omega
  have hwm:=eRs_mem (rows.take i)
  have hbd:((eRs (rows.take i)).length+1)*24<=140737488355328:=by omega
  cases hx:rows[i]? with
  |some r=>
   have hlt:=(List.getElem?_eq_some_iff.1 hx).1
   have hilt:(i:Int)<rs.length:=by omega
   have hg:rs[((i:Nat):Int).toNat]?=some [r.d]:=g2 i r hx
   have hK:=hk4 r (List.mem_of_getElem? hx)
   have ht:eRs (rows.take (i+1))=eRs (rows.take i)++[[r.d]]:=by rw[List.take_add_one,hx];simp[eRs]
   obtain⟨A,hA⟩:∃z,z=eRs (rows.take i):=⟨_,rfl⟩
   rw[<- hA] at hw1 hwm hbd ht ⊢
   obtain⟨rd,hrd⟩:∃d,d=r.d:=⟨_,rfl⟩
   rw[<- hrd] at hg hK ht
   clear g1 g2 hx hA hf hrd hS hcp hk1 hk2 hk3 hk4 hrs2
   repeat' first|refine st ?_|((with_reducible apply go_i);conv=>whnf)|refine⟨λ_=>?_,λ_=>?_⟩|fail
   exact⟨i+1,rfl,rfl,by rw[ht];simp,by omega,by omega⟩
  |none=>
   have hge:=List.getElem?_eq_none_iff.1 hx
   have hilt:(rs.length:Int)<=i:=by omega
   rw[List.take_of_length_le hge,<- hrs2] at hw1 hwm hbd ⊢
   obtain⟨ww,hww⟩:∃z,z=rs:=⟨_,rfl⟩
   rw[<- hww] at hw1 hwm hbd ⊢
   clear hx hk1 hk2 hk3 hk4 hS hcp g2 hww hrs2
   repeat' first|refine st ?_|((with_reducible apply go_i);conv=>whnf)|refine⟨λ_=>?_,λ_=>?_⟩|fail
   refine x_nilcc 2 14 15 rfl rfl rfl ?_
   refine x_loop1 mixed Lt.optimize_mapped_l1 Lk.optimize_mapped_l1 (λ(i:Nat)=>[.d (eI i)]) (λi=>[.cells [.d (eI op),.d (eI n),.d dk,.d dr,.d (eI xo),.d (eI xn),.d (eI xv.k),.d (eI xv.n),.d (.str xv.s),.d (.str xm),.d xd,.d dx,.d dy,.d da,.d di],.cells [.d (eI 0),.d (eI 0),.d .nil,.d .nil,.d (eI 0),.d (eI 0),.d (eI 0),.d (eI 0),.d (.str []),.d (.str []),.d .nil,.d .nil,.d .nil,.d .nil,.d .nil],.cells [.d (eI op),.d (eI n),.d dk,.arr 7 ww.length,.d (eI yo),.d (eI yn),.d (eI yv.k),.d (eI yv.n),.d (.str yv.s),.d (.str ym),.d yd,.d dx2,.d dy,.d da,.arr 8 (pL ((ins.take i).map Φ)).length],.hole,.hole,.hole,.hole,.arr ww 1 0 ww.isEmpty,.arr (pL ((ins.take i).map Φ)) 15 0 (pL ((ins.take i).map Φ)).isEmpty]) (λi=>i<=ins.length) (λi=>ins.length-i) 0 rfl rfl rfl rfl (λ_ _=>⟨rfl,rfl⟩) rfl (by omega) ?_
   repeat' first|refine st ?_|((with_reducible apply go_i);conv=>whnf)|refine⟨λ_=>?_,λ_=>?_⟩|fail
   intro i i1
   have hv1:(pL ((ins.take i).map Φ)).length=i:=by rw[pL_len,List.length_map,List.length_take];omega
   have hvm:=pL_mem ((ins.take i).map Φ)
   have hbd2:((pL ((ins.take i).map Φ)).length+1)*248<=140737488355328:=by omega
   cases hx:ins[i]? with
   |some p=>
    have hlt:=(List.getElem?_eq_some_iff.1 hx).1
    have hilt:(i:Int)<es.length:=by omega
    have hg:=g1 i p hx
    have hL:=hf p (List.mem_of_getElem? hx)
    have ht:pL ((ins.take (i+1)).map Φ)=pL ((ins.take i).map Φ)++[(Φ p).ds]:=by rw[List.take_add_one,hx];simp[pL]
    obtain⟨A,hA⟩:∃z,z=pL ((ins.take i).map Φ):=⟨_,rfl⟩
    rw[<- hA] at hv1 hvm hbd2 ht ⊢
    obtain⟨op',n',dk',dr',xo',xn',xv',xm',xd',dx',dy',da',di',c1,c2⟩:=Pl.cut p
    obtain⟨op1,n1,dk1,dr1,xo1,xn1,xv1,xm1,xd1,dx1,dy1,da1,di1,c3,c4⟩:=Pl.cut (Φ p)
    have hg:es[((i:Nat):Int).toNat]?=some (ePld op' n' dk' dr' xo' xn' xv' xm' xd' dx' dy' da' di'):=by rw[<- c1];exact hg
    rw[c2,c4] at hL
    rw[c3] at ht
    clear g1 hx hA hf c1 c2 c3 c4
    repeat' first|refine st ?_|((with_reducible apply go_i);conv=>whnf)|refine⟨λ_=>?_,λ_=>?_⟩|fail
    exact⟨i+1,rfl,rfl,by rw[ht];simp,by omega,by omega⟩
   |none=>
    have hge:=List.getElem?_eq_none_iff.1 hx
    have hilt:(es.length:Int)<=i:=by omega
    rw[List.take_of_length_le hge] at hv1 hvm hbd2 ⊢
    obtain⟨A,hA⟩:∃z,z=pL (ins.map Φ):=⟨_,rfl⟩
    rw[<- hA] at hv1 hvm hbd2 ⊢
    clear g1 hx hA hf
    repeat' first|refine st ?_|((with_reducible apply go_i);conv=>whnf)|refine⟨λ_=>?_,λ_=>?_⟩|fail
    all_goals (cases ww<;>cases A<;>rfl)
 rw[e1,e2,e3,e4,e5,e6,e7,hxd,hyd] at hgoal
 exact hgoal
end Go.Proofs
end
section
namespace Go.Proofs
open Go.Bi
def plnB(n:Int)(v:Vl)(nm:List UInt8)(k:Nat):Bool:=decide (2<=k/\n=0/\nm=[]/\v=vNull)
theorem C.predicate_plain(op n:Int)(v:Vl)(nm:List UInt8)(es:List (List D))(hl:es.length<=1048577)(d:D)(hd:SlD d es):Pure Tryz.prog N.predicate_plain [eX op n v nm d] (.d (.bool (plnB n v nm es.length))):=by
 obtain⟨q,hq⟩:∃q,q=plnB n v nm es.length:=⟨_,rfl⟩
 rw[<- hq]
 unfold plnB at hq
 obtain⟨vk,vn,vs⟩:=v
 by_cases h1:2<=es.length
 rotate_left
 ·rw[decide_eq_false λh=>h1 h.1] at hq
  subst hq
  have h1:(es.length:Int)<2:=by omega
  refine F.predicate_plain.go mixed rfl ?_
  repeat' first|refine st ?_|((with_reducible apply go_i);conv=>whnf)|refine⟨λ_=>?_,λ_=>?_⟩|fail
  all_goals first|rfl|(exfalso;omega)
 have h1':(2:Int)<=es.length:=by omega
 by_cases h2:n=0
 rotate_left
 ·rw[decide_eq_false λh=>h2 h.2.1] at hq
  subst hq
  refine F.predicate_plain.go mixed rfl ?_
  repeat' first|refine st ?_|((with_reducible apply go_i);conv=>whnf)|refine⟨λ_=>?_,λ_=>?_⟩|fail
  all_goals first|rfl|simp_all|(exfalso;omega)
 by_cases h3:nm=[]
 rotate_left
 ·rw[decide_eq_false λh=>h3 h.2.2.1] at hq
  subst hq
  subst h2
  refine F.predicate_plain.go mixed rfl ?_
  repeat' first|refine st ?_|((with_reducible apply go_i);conv=>whnf)|refine⟨λ_=>?_,λ_=>?_⟩|fail
  all_goals first|rfl|simp_all|(exfalso;omega)
 subst h2
 subst h3
 refine F.predicate_plain.go mixed rfl ?_
 repeat' first|refine st ?_|((with_reducible apply go_i);conv=>whnf)|refine⟨λ_=>?_,λ_=>?_⟩|fail
 all_goals (rw[hq];simp_all[vNull])
abbrev stg(op:Int):Vl:=vBool (decide (op=6))
abbrev wek(op:Int):Vl:=vBool (decide (op=5))
abbrev Ex.op:Ex->Int
 |.mk op _ _ _ _ _=>op
abbrev Ex.vl:Ex->Vl
 |.mk _ _ v _ _ _=>v
def cnA(op:Int):List Ex->List Ex
 |[]=>[]
 |x::r=>if x.op≠1\/x.vl≠wek op then x::cnA op r else cnA op r
def cnS(op:Int)(l:List Ex):Bool:=l.any λx=>decide (x.op=1/\x.vl=stg op)
def cnX(op n:Int)(v:Vl)(nm:List UInt8)(args:List Ex):Ex:=
 if cnS op args then cstX (stg op) else if 2<=(cnA op args).length then .mk op n v nm true (cnA op args) else .mk op n v nm true args
theorem cnA_snoc(op:Int)(l:List Ex)(x:Ex):cnA op (l++[x])=cnA op l++(if x.op≠1\/x.vl≠wek op then [x] else []):=by
 induction l with
 |nil=>simp only[List.nil_append,cnA]
 |cons a l ih=>
  rw[List.cons_append,cnA,cnA,ih]
  split<;>simp
theorem cnA_len(op:Int):∀l:List Ex,(cnA op l).length<=l.length
 |[]=>Nat.le_refl _
 |x::r=>by
  have:=cnA_len op r
  rw[cnA]
  split<;>simp only[List.length_cons]<;>omega
theorem C.predicate_connected(op n:Int)(v:Vl)(nm:List UInt8)(args:List Ex)(hop:op=5\/op=6)(hl:args.length<=1048576) :
  Pure Tryz.prog N.predicate_connected [(Ex.mk op n v nm true args).av] (cnX op n v nm args).av:=by
 have hB1:=C.value_Bool (decide (op=6))
 have hB2:=C.value_Bool (decide (op=5))
 have hK:=C.predicate_constant (stg op)
 rw[Ex.av_mk]
 have hd:SlD (ng true (xL args)) (xL args):=sld_ng
 obtain⟨d,hdd⟩:∃d,d=ng true (xL args):=⟨_,rfl⟩
 have lA:=xL_len args
 have mA':=xL_mem args
 have gA:=λi x=>@xL_get args i x
 have hxv:∀(i:Nat) (x:Ex),args[i]?=some x->(cnS op (args.take i)=false)->(cnS op (args.take (i+1))=decide (x.op=1/\x.vl=stg op)):=λi x h h2=>by
  unfold cnS at h2 ⊢
  rw[List.take_add_one,h,List.any_append,h2];simp
 have hsd:∀(i:Nat) (x:Ex),args[i]?=some x->decide (x.op=1/\x.vl=stg op)=true->cnS op args=true:=λi x h h2=>List.any_eq_true.2 ⟨x,List.mem_of_getElem? h,h2⟩
 obtain⟨q,hq⟩:∃q,q=(cnX op n v nm args).av:=⟨_,rfl⟩
 rw[<- hq]
 unfold cnX at hq
 rw[<- hdd] at hd ⊢
 obtain⟨s1,hs1⟩:∃s,s=stg op:=⟨_,rfl⟩
 obtain⟨s2,hs2⟩:∃s,s=wek op:=⟨_,rfl⟩
 have hB1:Bi.Pure Tryz.prog N.value_Bool [.d (.bool (decide (op=6)))] (eV s1):=by rw[hs1];exact hB1
 have hB2:Bi.Pure Tryz.prog N.value_Bool [.d (.bool (decide (op=5)))] (eV s2):=by rw[hs2];exact hB2
 rw[<- hs1] at hK
 have hsd:∀(i:Nat) (x:Ex),args[i]?=some x->x.op=1->x.vl=s1->cnS op args=true:=λi x h h2 h3=>hsd i x h (decide_eq_true ⟨h2,by rw[h3,hs1]⟩)
 obtain⟨es,hes⟩:∃z,z=xL args:=⟨_,rfl⟩
 rw[<- hes] at hd lA mA' gA
 clear hes
 have r0:v.k=v.k:=rfl
 have r1:v.s=v.s:=rfl
 have r2:nm=nm:=rfl
 have r3:s1.s=s1.s:=rfl
 have r4:s2.s=s2.s:=rfl
 have hbo:decide (op=6)=decide (op=6):=rfl
 refine F.predicate_connected.go mixed rfl ?_
 repeat' first|refine st ?_|((with_reducible apply go_i);conv=>whnf)|refine⟨λ_=>?_,λ_=>?_⟩|fail
 refine x_nil 5 7 rfl rfl ?_
 refine x_loop1 mixed Lt.predicate_connected_l0 Lk.predicate_connected_l0 (λ(i:Nat)=>[.arr 4 (xL (cnA op (args.take i))).length,.d (eI i)]) (λi=>[.cells [.d (eI op),.d (eI n),.d (eI v.k),.d (eI v.n),.d (.str v.s),.d (.str nm),.d d],.cells [.d (eI 0),.d (eI 0),.d (eI 0),.d (eI 0),.d (.str []),.d (.str []),.d .nil],.cells [.d (eI s1.k),.d (eI s1.n),.d (.str s1.s)],.cells [.d (eI s2.k),.d (eI s2.n),.d (.str s2.s)],.arr (xL (cnA op (args.take i))) 7 0 (xL (cnA op (args.take i))).isEmpty]) (λi=>i<=args.length/\cnS op (args.take i)=false) (λi=>args.length-i) 0 rfl rfl rfl rfl (λ_ _=>⟨rfl,rfl⟩) rfl ⟨by omega,rfl⟩ ?_
 repeat' first|refine st ?_|((with_reducible apply go_i);conv=>whnf)|refine⟨λ_=>?_,λ_=>?_⟩|fail
 intro i ⟨i1,i2⟩
 have hwl:(xL (cnA op (args.take i))).length<=i:=by rw[xL_len];have:=cnA_len op (args.take i);rw[List.length_take] at this;omega
 have hwm:=xL_mem (cnA op (args.take i))
 have hbd:((xL (cnA op (args.take i))).length+1)*88<=140737488355328:=by omega
 cases hx:args[i]? with
 |some x=>
  have hlt:=(List.getElem?_eq_some_iff.1 hx).1
  have hilt:(i:Int)<es.length:=by omega
  have hg:=gA i x hx
  have hn:=hxv i x hx i2
  have hsd:=hsd i x hx
  have ht:cnA op (args.take (i+1))=cnA op (args.take i)++(if x.op≠1\/x.vl≠wek op then [x] else []):=by rw[List.take_add_one,hx];exact cnA_snoc ..
  rw[<- hs1] at hn
  rw[<- hs2] at ht
  obtain⟨x1,x2,⟨vk,vn,vs⟩,x4,x5,x6⟩:=x
  dsimp only[Ex.op,Ex.vl] at hn ht hsd
  rw[Ex.ds_mk] at hg
  obtain⟨z1,hz1⟩:∃z,z=ng x5 (xL x6):=⟨_,rfl⟩
  have hg:es[((i:Nat):Int).toNat]?=some (xds x1 x2 ⟨vk,vn,vs⟩ x4 z1):=by rw[hz1];exact hg
  have hap:xL (cnA op (args.take i)++[.mk x1 x2 ⟨vk,vn,vs⟩ x4 x5 x6])=xL (cnA op (args.take i))++[xds x1 x2 ⟨vk,vn,vs⟩ x4 z1]:=by rw[hz1];simp[xL,Ex.ds_mk]
  obtain⟨A,hA⟩:∃z,z=xL (cnA op (args.take i)):=⟨_,rfl⟩
  rw[<- hA] at hwl hwm hbd hap ⊢
  by_cases h1:x1=1
  ·by_cases h2:(⟨vk,vn,vs⟩:Vl)=s1
   ·have hS:=hsd h1 h2
    rw[hS,if_pos rfl,Ex.av_mk] at hq
    rw[<- hs1] at hq
    subst hq
    subst h1
    obtain⟨rfl,rfl,rfl⟩:vk=s1.k/\vn=s1.n/\vs=s1.s:=by rw[<- h2];exact⟨rfl,rfl,rfl⟩
    clear gA hx hxv hsd ht hap hA hz1 hn h2 hB1 hB2
    repeat' first|refine st ?_|((with_reducible apply go_i);conv=>whnf)|refine⟨λ_=>?_,λ_=>?_⟩|fail
    all_goals first|rfl|(exfalso;simp_all;done)
   ·have hne:¬(vk=s1.k/\vn=s1.n/\vs=s1.s):=λh=>h2 (by rw[h.1,h.2.1,h.2.2])
    rw[decide_eq_false λh=>h2 h.2] at hn
    subst h1
    by_cases h3:(⟨vk,vn,vs⟩:Vl)=s2
    ·rw[if_neg (by simp[h3])] at ht
     rw[List.append_nil] at ht
     obtain⟨rfl,rfl,rfl⟩:vk=s2.k/\vn=s2.n/\vs=s2.s:=by rw[<- h3];exact⟨rfl,rfl,rfl⟩
     clear gA hx hxv hsd hap hz1 h2 hB1 hB2 hK hq
     repeat' first|refine st ?_|((with_reducible apply go_i);conv=>whnf)|refine⟨λ_=>?_,λ_=>?_⟩|fail
     all_goals first|(exfalso;simp_all;done)|exact⟨i+1,by rw[ht,<- hA]<;>rfl,rfl,by rw[ht,<- hA]<;>rfl,by omega,by omega,hn⟩
    ·have hne2:¬(vk=s2.k/\vn=s2.n/\vs=s2.s):=λh=>h3 (by rw[h.1,h.2.1,h.2.2])
     rw[if_pos (.inr h3)] at ht
     clear gA hx hxv hsd hz1 h2 h3 hB1 hB2 hK hq
     repeat' first|refine st ?_|((with_reducible apply go_i);conv=>whnf)|refine⟨λ_=>?_,λ_=>?_⟩|fail
     all_goals first|(exfalso;simp_all;done)|exact⟨i+1,by rw[ht,hap];simp,rfl,by rw[ht,hap];simp,by omega,by omega,hn⟩
  ·rw[decide_eq_false λh=>h1 h.1] at hn
   rw[if_pos (.inl h1)] at ht
   clear gA hx hxv hsd hz1 hB1 hB2 hK hq
   repeat' first|refine st ?_|((with_reducible apply go_i);conv=>whnf)|refine⟨λ_=>?_,λ_=>?_⟩|fail
   all_goals first|(exfalso;simp_all;done)|exact⟨i+1,by rw[ht,hap];simp,rfl,by rw[ht,hap];simp,by omega,by omega,hn⟩
 |none=>
  have hge:=List.getElem?_eq_none_iff.1 hx
  have hilt:(es.length:Int)<=i:=by omega
  rw[List.take_of_length_le hge] at i2 hwl hwm hbd ⊢
  rw[i2,if_neg (by simp)] at hq
  have hal:=xL_len (cnA op args)
  obtain⟨A,hA⟩:∃z,z=xL (cnA op args):=⟨_,rfl⟩
  rw[<- hA] at hwl hwm hbd hal ⊢
  clear gA hx hxv hsd hB1 hB2 hK
  by_cases h2:2<=(cnA op args).length
  ·rw[if_pos h2,Ex.av_mk,<- hA] at hq
   have hne:ng true A=.sl A:=by
    cases A with
    |nil=>simp at hal;omega
    |cons a r=>rfl
   rw[hne] at hq
   have h3:(2:Int)<=A.length:=by omega
   subst hq
   repeat' first|refine st ?_|((with_reducible apply go_i);conv=>whnf)|refine⟨λ_=>?_,λ_=>?_⟩|fail
   all_goals first|rfl|(cases A<;>first|rfl|(simp at h3;done))
  ·rw[if_neg h2,Ex.av_mk,<- hdd] at hq
   have h3:(A.length:Int)<2:=by omega
   subst hq
   repeat' first|refine st ?_|((with_reducible apply go_i);conv=>whnf)|refine⟨λ_=>?_,λ_=>?_⟩|fail
   all_goals first|rfl|(exfalso;omega)
end Go.Proofs
end
section
namespace Go.Proofs
open Go.Bi
def smF(op n:Int)(v:Vl)(nm:List UInt8)(l:List Ex):Ex:=
 if (op=5\/op=6)/\plnB n v nm l.length=true then cnX op n v nm l else .mk op n v nm true l
mutual
/-- A predicate, simplified. -/
def smp:Ex->Ex
 |.mk op n v nm nl args=>if rawC (.mk op n v nm nl args)=[] then cstX (ev [] (.mk op n v nm nl args)) else smF op n v nm (smps args)
def smps:List Ex->List Ex
 |[]=>[]
 |e::r=>smp e::smps r
end
theorem smps_eq:∀l,smps l=l.map smp
 |[]=>by simp[smps]
 |e::r=>by simp[smps,smps_eq r]
theorem smp_mk(op n:Int)(v:Vl)(nm:List UInt8)(nl:Bool)(args:List Ex):smp (.mk op n v nm nl args)=if rawC (.mk op n v nm nl args)=[] then cstX (ev [] (.mk op n v nm nl args)) else smF op n v nm (args.map smp):=by rw[smp,smps_eq]
theorem colsD_len(e:Ex):∃es:List (List D),SlD (colsD e) es/\(es.length=0↔rawC e=[])/\es.length<=e.bk:=by
 by_cases h:rawC e=[]
 ·refine⟨[],.inl ⟨?_,rfl⟩,by simp[h],Nat.zero_le _⟩
  unfold colsD;rw[h];rfl
 ·refine⟨eIs (cols e),.inr ?_,?_,by rw[eIs_len];exact cols_len e⟩
  ·unfold colsD
   rw[if_neg]
   cases hr:rawC e with
   |nil=>exact absurd hr h
   |cons a r=>simp[eIs]
  ·rw[eIs_len]
   constructor
   ·intro h2
    have h3:=List.length_eq_zero_iff.1 h2
    cases hr:rawC e with
    |nil=>rfl
    |cons a r=>
     have:=(cols_mem e a).2 (by rw[hr];simp)
     rw[h3] at this;cases this
   ·intro h2;exact absurd h2 h
theorem C.predicate_Simplify:∀e:Ex,e.bk<=1048576->Pure Tryz.prog N.predicate_Simplify [e.av] (smp e).av:=by
 refine Ex.ind λop n v nm nl args ih hbk=>?_
 obtain⟨b1,b2,b3,b4⟩:=Ex.bk_bounds hbk
 have hC:=C.expr_Columns (.mk op n v nm nl args) hbk
 have hE:=C.expr_Eval [] (by simp) (by simp) .nil (.inl ⟨rfl,rfl⟩) (.mk op n v nm nl args) hbk
 have hK:=C.predicate_constant (ev [] (.mk op n v nm nl args))
 obtain⟨cs,hcs,hc0,hcl⟩:=colsD_len (.mk op n v nm nl args)
 have hcl:cs.length<=1048576:=Nat.le_trans hcl hbk
 have ih':∀a∈args,Pure Tryz.prog N.predicate_Simplify [a.av] (smp a).av:=λa ha=>ih a ha (b4 a ha)
 clear ih
 obtain⟨q,hq⟩:∃q,q=smp (.mk op n v nm nl args):=⟨_,rfl⟩
 rw[<- hq]
 rw[smp_mk] at hq
 obtain⟨cd,hcd⟩:∃d,d=colsD (.mk op n v nm nl args):=⟨_,rfl⟩
 rw[<- hcd] at hC hcs
 obtain⟨w,hw⟩:∃w,w=ev [] (.mk op n v nm nl args):=⟨_,rfl⟩
 rw[<- hw] at hE hK hq
 clear hcd hw hbk
 by_cases h0:rawC (.mk op n v nm nl args)=[]
 ·rw[if_pos h0] at hq
  have h1:(cs.length:Int)=0:=by have:=hc0.2 h0;omega
  clear hc0 h0
  subst hq
  rw[Ex.av_mk] at hC hE ⊢
  rw[Ex.av_mk]
  obtain⟨d,hdd⟩:∃d,d=ng nl (xL args):=⟨_,rfl⟩
  rw[<- hdd] at hC hE ⊢
  have r0:v.k=v.k:=rfl
  have r1:v.s=v.s:=rfl
  have r2:nm=nm:=rfl
  have r3:w.s=w.s:=rfl
  clear hdd ih'
  refine F.predicate_Simplify.go mixed rfl ?_
  repeat' first|refine st ?_|((with_reducible apply go_i);conv=>whnf)|refine⟨λ_=>?_,λ_=>?_⟩|fail
  all_goals rfl
 rw[if_neg h0] at hq
 have h1:¬(cs.length:Int)=0:=λh=>h0 (hc0.1 (by omega))
 clear hc0 h0 hE hK
 have hPl:=λ(es:List (List D)) (h:es.length<=1048577) d hd=>C.predicate_plain op n v nm es h d hd
 have hCn:=λh1=>C.predicate_connected op n v nm (args.map smp) h1 (by rw[List.length_map];exact b1)
 rw[Ex.av_mk] at hC ⊢
 have hd:SlD (ng nl (xL args)) (xL args):=sld_ng
 obtain⟨d,hdd⟩:∃d,d=ng nl (xL args):=⟨_,rfl⟩
 rw[<- hdd] at hC hd ⊢
 clear hdd
 have lA:=xL_len args
 have mA':=xL_mem args
 have gA:=λi x=>@xL_get args i x
 obtain⟨es,hes⟩:∃z,z=xL args:=⟨_,rfl⟩
 rw[<- hes] at hd lA mA' gA
 clear hes
 have r0:v.k=v.k:=rfl
 have r1:v.s=v.s:=rfl
 have r2:nm=nm:=rfl
 refine F.predicate_Simplify.go mixed rfl ?_
 repeat' first|refine st ?_|((with_reducible apply go_i);conv=>whnf)|refine⟨λ_=>?_,λ_=>?_⟩|fail
 refine x_nil 3 7 rfl rfl ?_
 refine x_loop1 mixed Lt.predicate_Simplify_l0 Lk.predicate_Simplify_l0 (λ(i:Nat)=>[.arr 2 (xL ((args.take i).map smp)).length,.d (eI i)]) (λi=>[.cells [.d (eI op),.d (eI n),.d (eI v.k),.d (eI v.n),.d (.str v.s),.d (.str nm),.d d],.cells [.d (eI 0),.d (eI 0),.d (eI 0),.d (eI 0),.d (.str []),.d (.str []),.d .nil],.arr (xL ((args.take i).map smp)) 7 0 (xL ((args.take i).map smp)).isEmpty]) (λi=>i<=args.length) (λi=>args.length-i) 0 rfl rfl rfl rfl (λ_ _=>⟨rfl,rfl⟩) rfl (by omega) ?_
 repeat' first|refine st ?_|((with_reducible apply go_i);conv=>whnf)|refine⟨λ_=>?_,λ_=>?_⟩|fail
 intro i i1
 have hw1:(xL ((args.take i).map smp)).length=i:=by rw[xL_len,List.length_map,List.length_take];omega
 have hwm:=xL_mem ((args.take i).map smp)
 have hbd:((xL ((args.take i).map smp)).length+1)*88<=140737488355328:=by omega
 cases hx:args[i]? with
 |some x=>
  have hlt:=(List.getElem?_eq_some_iff.1 hx).1
  have hilt:(i:Int)<es.length:=by omega
  have hg:=gA i x hx
  have hS:=ih' x (List.mem_of_getElem? hx)
  have ht:xL ((args.take (i+1)).map smp)=xL ((args.take i).map smp)++[(smp x).ds]:=by rw[List.take_add_one,hx];simp[xL]
  obtain⟨A,hA'⟩:∃z,z=xL ((args.take i).map smp):=⟨_,rfl⟩
  rw[<- hA'] at hw1 hwm hbd ht ⊢
  obtain⟨y,hy⟩:∃y,y=smp x:=⟨_,rfl⟩
  rw[<- hy] at hS ht
  clear hy gA hx hA' ih' hPl hCn hC hq
  obtain⟨x1,x2,x3,x4,x5,x6⟩:=x
  obtain⟨y1,y2,y3,y4,y5,y6⟩:=y
  rw[Ex.av_mk,Ex.av_mk] at hS
  rw[Ex.ds_mk] at hg ht
  obtain⟨z1,hz1⟩:∃d,d=ng x5 (xL x6):=⟨_,rfl⟩
  obtain⟨z2,hz2⟩:∃d,d=ng y5 (xL y6):=⟨_,rfl⟩
  have hg:es[((i:Nat):Int).toNat]?=some (xds x1 x2 x3 x4 z1):=by rw[hz1];exact hg
  rw[<- hz1,<- hz2] at hS
  rw[<- hz2] at ht
  clear hz1 hz2
  have q0:x3.s=x3.s:=rfl
  have q1:x4=x4:=rfl
  have q2:y3.s=y3.s:=rfl
  have q3:y4=y4:=rfl
  repeat' first|refine st ?_|((with_reducible apply go_i);conv=>whnf)|refine⟨λ_=>?_,λ_=>?_⟩|fail
  exact⟨i+1,by rw[ht];simp,rfl,by rw[ht];simp,by omega,by omega⟩
 |none=>
  have hge:=List.getElem?_eq_none_iff.1 hx
  have hilt:(es.length:Int)<=i:=by omega
  rw[List.take_of_length_le hge] at hw1 hwm hbd ⊢
  have hcd2:∀l:List (List D),ng true l=CnD l.isEmpty .nil (.sl l):=λl=>by cases l<;>rfl
  have hl2:(xL (args.map smp)).length=(args.map smp).length:=xL_len _
  have hP2:=hPl (xL (args.map smp)) (by rw[hl2,List.length_map];omega) (ng true (xL (args.map smp))) sld_ng
  unfold smF at hq
  rw[hl2] at hP2
  rw[hcd2] at hP2
  obtain⟨l,hl⟩:∃l,l=args.map smp:=⟨_,rfl⟩
  rw[<- hl] at hCn hP2 hq hw1 hwm hbd ⊢
  obtain⟨pb,hpb⟩:∃b,b=plnB n v nm l.length:=⟨_,rfl⟩
  rw[<- hpb] at hP2 hq
  rw[Ex.av_mk,hcd2] at hCn
  by_cases h5:op=5\/op=6
  ·have hCn:=hCn h5
   cases pb with
   |true=>
    rw[if_pos ⟨h5,rfl⟩] at hq
    subst hq
    obtain⟨z,hz⟩:∃z,z=cnX op n v nm l:=⟨_,rfl⟩
    rw[<- hz] at hCn ⊢
    obtain⟨A,hA⟩:∃z,z=xL l:=⟨_,rfl⟩
    rw[<- hA] at hw1 hwm hbd hP2 hCn ⊢
    clear gA hx ih' hPl hC hz hl hpb hcd2 hl2
    obtain⟨y1,y2,y3,y4,y5,y6⟩:=z
    rw[Ex.av_mk] at hCn ⊢
    have q2:y3.s=y3.s:=rfl
    have q3:y4=y4:=rfl
    rcases h5 with rfl|rfl
    all_goals skip
    all_goals repeat' first|refine st ?_|((with_reducible apply go_i);conv=>whnf)|refine⟨λ_=>?_,λ_=>?_⟩|fail
    all_goals rfl
   |false=>
    rw[if_neg (λh=>by cases h.2)] at hq
    subst hq
    rw[Ex.av_mk]
    obtain⟨A,hA⟩:∃z,z=xL l:=⟨_,rfl⟩
    rw[<- hA] at hw1 hwm hbd hP2 ⊢
    clear gA hx ih' hPl hC hl hpb hcd2 hl2 hCn
    rcases h5 with rfl|rfl
    all_goals skip
    all_goals repeat' first|refine st ?_|((with_reducible apply go_i);conv=>whnf)|refine⟨λ_=>?_,λ_=>?_⟩|fail
    all_goals (cases A<;>rfl)
  ·rw[if_neg (λh=>h5 h.1)] at hq
   subst hq
   rw[Ex.av_mk]
   obtain⟨A,hA⟩:∃z,z=xL l:=⟨_,rfl⟩
   rw[<- hA] at hw1 hwm hbd ⊢
   have h6:¬op=5:=λh=>h5 (.inl h)
   have h7:¬op=6:=λh=>h5 (.inr h)
   clear gA hx ih' hPl hC hl hpb hcd2 hl2 hCn hP2
   repeat' first|refine st ?_|((with_reducible apply go_i);conv=>whnf)|refine⟨λ_=>?_,λ_=>?_⟩|fail
   all_goals first|(cases A<;>rfl)|(exfalso;simp_all;done)
end Go.Proofs
end
section
namespace Go.Proofs
open Go.Bi
theorem evOp_colS{op n n':Int}{v:Vl}{l row row':List Vl}(h1:op=2->vCol row n=vCol row' n')(h2:op≠2->n=n'):evOp op n v l row=evOp op n' v l row':=by
 by_cases h0:op=2
 ·subst h0
  exact h1 rfl
 ·rw[h2 h0]
  unfold evOp
  repeat' split
  all_goals first|rfl|(exfalso;omega)
theorem ev_colS{row row':List Vl}:∀e:Ex,(∀c∈rawC e,vCol row c=vCol row' c)->ev row e=ev row' e:=by
 refine Ex.ind λop n v nm nl args ih h=>?_
 rw[rawC_mk] at h
 rw[ev_mk,ev_mk]
 have ha:args.map (ev row)=args.map (ev row'):=List.map_congr_left λa ha=>ih a ha λc hc=>h c (List.mem_append_right _ (List.mem_flatMap.2 ⟨a,ha,hc⟩))
 rw[ha,evOp_colS (n':=n) (row':=row') (λe=>h n (by rw[if_pos e];simp)) (λ_=>rfl)]
theorem chk_ok{ks:List Int}{op n:Int}{v:Vl}{nm:List UInt8}{nl:Bool}{args:List Ex}(h:(chk ks (.mk op n v nm nl args)).2=0) :
  fmd op n v nm args.length=true/\(op≠2->(∀a∈args,(chk ks a).2=0)/\(res op v (args.map λa=>(chk ks a).1)).2=true/\(chk ks (.mk op n v nm nl args)).1=(res op v (args.map λa=>(chk ks a).1)).1)/\(op=2->0<=n/\n<ks.length/\args=[]):=by
 rw[chk_mk] at h ⊢
 have h0:=h
 unfold ckF at h
 split at h
 ·cases h
 split at h
 ·cases h
 rename_i h1 h2
 have hf:fmd op n v nm args.length=true:=by simpa using h2
 refine⟨hf,λh3=>?_,λh3=>?_⟩
 ·rw[ckF_known hf h3] at h0 ⊢
  by_cases h4:fe (args.map (chk ks))=0
  ·rw[if_pos h4] at h0 ⊢
   rw[List.map_map] at h0 ⊢
   have e:(Prod.fst ∘ chk ks)=λa=>(chk ks a).1:=rfl
   rw[e] at h0 ⊢
   cases h5:(res op v (args.map λa=>(chk ks a).1)).2 with
   |false=>rw[h5] at h0;cases h0
   |true=>exact⟨λa ha=>fe_zero h4 _ (List.mem_map.2 ⟨a,ha,rfl⟩),rfl,by rw[if_pos rfl]⟩
  ·rw[if_neg h4] at h0;exact absurd h0 h4
 ·subst h3
  rw[if_pos rfl] at h
  split at h
  ·rename_i h4
   refine⟨h4.1,h4.2,?_⟩
   have h5:=fmd_cnt hf
   have h6:decide ((args.length:Int)=0)=true:=h5
   have h7:=of_decide_eq_true h6
   exact List.length_eq_zero_iff.1 (by omega)
  ·cases h
def Le0(a b:Int):Prop:=a=b\/a=0
inductive LeL:List Int->List Int->Prop
 |nil:LeL [] []
 |cons {a b:Int} {l m:List Int} (h:Le0 a b) (t:LeL l m):LeL (a::l) (b::m)
theorem LeL.allK{l m:List Int}{c:Int}(h:LeL l m)(hm:allK m c=true):allK l c=true:=by
 induction h with
 |nil=>rfl
 |@cons a b l m h t ih=>
  simp only[Go.Proofs.allK,List.all_cons,Bool.and_eq_true,decide_eq_true_eq] at hm ih ⊢
  refine⟨?_,ih hm.2⟩
  rcases h with rfl|rfl
  ·exact hm.1
  ·exact .inr rfl
theorem uniF_le:∀{l m:List Int},LeL l m->∀{j k:Int},Le0 j k->(uniF k m).2=true->(uniF j l).2=true/\Le0 (uniF j l).1 (uniF k m).1
 |_,_,.nil,j,k,hjk,_=>⟨rfl,hjk⟩
 |_,_,.cons (a:=a) (b:=b) (l:=l) (m:=m) h t,j,k,hjk,hm=>by
  unfold uniF at hm ⊢
  by_cases hb:b=0
  ·have ha:a=0:=by rcases h with h|h<;>omega
   rw[if_pos hb] at hm ⊢
   rw[if_pos ha]
   exact uniF_le t hjk hm
  ·rw[if_neg hb] at hm ⊢
   by_cases hk:k≠0/\k≠b
   ·rw[if_pos hk] at hm;cases hm
   ·rw[if_neg hk] at hm ⊢
    by_cases ha:a=0
    ·rw[if_pos ha]
     refine uniF_le t ?_ hm
     rcases hjk with h1|h1
     ·by_cases hk0:k=0
      ·exact .inr (by omega)
      ·exact .inl (by omega)
     ·exact .inr h1
    ·rw[if_neg ha]
     have hab:a=b:=by rcases h with h|h;exact h;exact absurd h ha
     have hj:¬(j≠0/\j≠a):=by
      rintro⟨h1,h2⟩
      rcases hjk with h3|h3
      ·exact hk ⟨by omega,by omega⟩
      ·exact h1 h3
     rw[if_neg hj]
     exact uniF_le t (.inl hab) hm
theorem LeL.drop{l m:List Int}(h:LeL l m):LeL (l.drop 1) (m.drop 1):=by
 cases h with
 |nil=>exact .nil
 |cons _ t=>exact t
theorem LeL.take{l m:List Int}(h:LeL l m):LeL (l.take 1) (m.take 1):=by
 cases h with
 |nil=>exact .nil
 |cons h _=>exact .cons h .nil
theorem res_le{op:Int}{v:Vl}{l m:List Int}(h:LeL l m)(hm:(res op v m).2=true):(res op v l).2=true/\Le0 (res op v l).1 (res op v m).1:=by
 unfold res at hm ⊢
 by_cases c1:op=1
 ·rw[if_pos c1] at hm ⊢;rw[if_pos c1];exact⟨rfl,.inl rfl⟩
 rw[if_neg c1] at hm ⊢;rw[if_neg c1]
 by_cases c2:op=4\/op=5\/op=6
 ·rw[if_pos c2] at hm ⊢;rw[if_pos c2];exact⟨h.allK hm,.inl rfl⟩
 rw[if_neg c2] at hm ⊢;rw[if_neg c2]
 by_cases c3:op=7\/op=8\/op=9\/op=10\/op=11\/op=12
 ·rw[if_pos c3] at hm ⊢;rw[if_pos c3];exact⟨(uniF_le h (.inl rfl) hm).1,.inl rfl⟩
 rw[if_neg c3] at hm ⊢;rw[if_neg c3]
 by_cases c4:op=19
 ·rw[if_pos c4] at hm ⊢;rw[if_pos c4];exact⟨h.allK hm,.inl rfl⟩
 rw[if_neg c4] at hm ⊢;rw[if_neg c4]
 by_cases c5:op=20
 ·rw[if_pos c5] at hm ⊢;rw[if_pos c5];exact⟨h.allK hm,.inl rfl⟩
 rw[if_neg c5] at hm ⊢;rw[if_neg c5]
 by_cases c6:op=21
 ·rw[if_pos c6] at hm ⊢;rw[if_pos c6];exact⟨rfl,.inl rfl⟩
 rw[if_neg c6] at hm ⊢;rw[if_neg c6]
 by_cases c7:op=22
 ·rw[if_pos c7] at hm ⊢;rw[if_pos c7]
  simp only[Bool.and_eq_true] at hm ⊢
  have h1:=uniF_le h.drop (.inl rfl) hm.1
  exact⟨⟨h1.1,h.take.allK hm.2⟩,h1.2⟩
 rw[if_neg c7] at hm ⊢;rw[if_neg c7]
 by_cases c8:op=23
 ·rw[if_pos c8] at hm ⊢;rw[if_pos c8];exact uniF_le h (.inl rfl) hm
 rw[if_neg c8] at hm ⊢;rw[if_neg c8]
 by_cases c9:op=24
 ·rw[if_pos c9] at hm ⊢;rw[if_pos c9];exact⟨h.allK hm,.inl rfl⟩
 rw[if_neg c9] at hm ⊢;rw[if_neg c9];exact⟨h.allK hm,.inl rfl⟩
def rng(t:Int):Prop:=t=0\/t=1\/t=2
abbrev un(op:Int):Int:=if op=5 then 2 else 0
abbrev st'(op:Int):Int:=if op=5 then 0 else 2
theorem vTruth_rng(v:Vl):rng (vTruth v):=by
 unfold vTruth rng
 repeat' split
 all_goals omega
theorem lgS_un{op:Int}(hop:op=5\/op=6){t:Int}(ht:rng t){v:Vl}(hv:vTruth v=un op):lgS op t v=t:=by
 unfold lgS
 rw[hv]
 rcases hop with rfl|rfl<;>rcases ht with rfl|rfl|rfl<;>decide
theorem lgS_un2{op:Int}(hop:op=5\/op=6)(v:Vl):lgS op (un op) v=vTruth v:=by
 unfold lgS
 have:=vTruth_rng v
 unfold rng at this
 rcases hop with rfl|rfl<;>rcases this with h|h|h<;>rw[h]<;>decide
theorem lgS_st{op:Int}(hop:op=5\/op=6){t:Int}(ht:rng t){v:Vl}(hv:vTruth v=st' op):lgS op t v=st' op:=by
 unfold lgS
 rw[hv]
 rcases hop with rfl|rfl<;>rcases ht with rfl|rfl|rfl<;>decide
theorem lgS_st2{op:Int}(hop:op=5\/op=6)(v:Vl):lgS op (st' op) v=st' op:=by
 unfold lgS
 have:=vTruth_rng v
 unfold rng at this
 rcases hop with rfl|rfl<;>rcases this with h|h|h<;>rw[h]<;>decide
theorem lgS_rng{op:Int}(hop:op=5\/op=6){t:Int}(ht:rng t)(v:Vl):rng (lgS op t v):=by
 unfold lgS
 have:=vTruth_rng v
 unfold rng at this ⊢
 rcases hop with rfl|rfl<;>rcases ht with rfl|rfl|rfl<;>rcases this with h|h|h<;>rw[h]<;>decide
theorem fold_st{op:Int}(hop:op=5\/op=6):∀l:List Vl,l.foldl (lgS op) (st' op)=st' op
 |[]=>rfl
 |v::l=>by rw[List.foldl_cons,lgS_st2 hop,fold_st hop l]
theorem fold_strong{op:Int}(hop:op=5\/op=6):∀(l:List Vl){t:Int},rng t->(∃v∈l,vTruth v=st' op)->l.foldl (lgS op) t=st' op
 |[],_,_,⟨v,hv,_⟩=>by cases hv
 |a::l,t,ht,⟨v,hv,h⟩=>by
  rw[List.foldl_cons]
  rcases List.mem_cons.1 hv with rfl|hv
  ·rw[lgS_st hop ht h,fold_st hop]
  ·exact fold_strong hop l (lgS_rng hop ht a) ⟨v,hv,h⟩
def wfC(x:Ex):Prop:=x.op=1->x=cstX x.vl/\vValid x.vl=true
theorem ev_cst(r:Row){w:Vl}(h:vValid w=true):ev r (cstX w)=w:=by
 rw[ev_mk]
 have:fmd 1 0 w [] ([]:List Ex).length=true:=by
  rw[fmd_1 0 w _ (by decide),h];rfl
 rw[this]
 rfl
theorem vTruth_un(op:Int)(hop:op=5\/op=6):vTruth (wek op)=un op/\vTruth (stg op)=st' op/\vOf (st' op)=stg op/\vValid (wek op)=true/\vValid (stg op)=true:=by
 rcases hop with rfl|rfl<;>decide
theorem fold_cnA{op:Int}(hop:op=5\/op=6)(r:Row):∀(l:List Ex){t:Int},rng t->(∀x∈l,wfC x)->((cnA op l).map (ev r)).foldl (lgS op) t=(l.map (ev r)).foldl (lgS op) t
 |[],_,_,_=>rfl
 |x::l,t,ht,hw=>by
  have ih:=fun {t} (h:rng t)=>fold_cnA hop r l h λy hy=>hw y (by simp[hy])
  rw[cnA]
  split
  ·rw[List.map_cons,List.map_cons,List.foldl_cons,List.foldl_cons]
   exact ih (lgS_rng hop ht _)
  ·rename_i h
   have h1:x.op=1:=by
    by_cases h1:x.op=1
    ·exact h1
    ·exact absurd (.inl h1) h
   have h2:x.vl=wek op:=by
    by_cases h2:x.vl=wek op
    ·exact h2
    ·exact absurd (.inr h2) h
   obtain⟨h3,h4⟩:=hw x (by simp) h1
   have h5:ev r x=wek op:=by rw[h3,ev_cst r h4,h2]
   rw[List.map_cons,List.foldl_cons,h5,lgS_un hop ht (vTruth_un op hop).1]
   exact ih ht
theorem ev_and(r:Row){op n:Int}{v:Vl}{nm:List UInt8}(nl:Bool){l:List Ex}(hop:op=5\/op=6)(h:plnB n v nm l.length=true):ev r (.mk op n v nm nl l)=vOf ((l.map (ev r)).foldl (lgS op) (un op)):=by
 unfold plnB at h
 obtain⟨h1,rfl,rfl,rfl⟩:=of_decide_eq_true h
 have hf:fmd op 0 vNull [] l.length=true:=by
  have hc:(cnt op l.length).1=true:=by
   rcases hop with rfl|rfl
   ·show decide (2<=(l.length:Int))=true
    exact decide_eq_true (by omega)
   ·show decide (2<=(l.length:Int))=true
    exact decide_eq_true (by omega)
  rw[fmd_o op 0 vNull l.length hc (by omega) (by omega) (by omega)]
  decide
 rw[ev_mk,hf,if_pos rfl]
 match l,h1 with
 |a::m,_=>
  rw[List.map_cons,List.foldl_cons,lgS_un2 hop]
  unfold evOp
  rw[if_neg (by omega),if_neg (by omega),if_neg (by omega),if_neg (by omega),if_pos hop]
  rfl
theorem cnS_mem{op:Int}{l:List Ex}(h:cnS op l=true):∃x∈l,x.op=1/\x.vl=stg op:=by
 obtain⟨x,hx,h⟩:=List.any_eq_true.1 h
 exact⟨x,hx,of_decide_eq_true h⟩
theorem cnA_mem{op:Int}:∀{l:List Ex},∀x∈cnA op l,x∈l
 |[],x,h=>by cases h
 |y::l,x,h=>by
  rw[cnA] at h
  split at h
  ·rcases List.mem_cons.1 h with rfl|h
   ·simp
   ·simp[cnA_mem x h]
  ·simp[cnA_mem x h]
theorem ev_cnX(r:Row){op n:Int}{v:Vl}{nm:List UInt8}{l:List Ex}(hop:op=5\/op=6)(h:plnB n v nm l.length=true)(hw:∀x∈l,wfC x):ev r (cnX op n v nm l)=ev r (.mk op n v nm true l):=by
 have hun:rng (un op):=by rcases hop with rfl|rfl<;>unfold rng<;>decide
 obtain⟨t1,t2,t3,t4,t5⟩:=vTruth_un op hop
 unfold cnX
 split
 ·rename_i hs
  obtain⟨x,hx,h1,h2⟩:=cnS_mem hs
  obtain⟨h3,h4⟩:=hw x hx h1
  have h5:ev r x=stg op:=by rw[h3,ev_cst r h4,h2]
  rw[ev_cst r t5,ev_and r true hop h,fold_strong hop _ hun ⟨ev r x,List.mem_map.2 ⟨x,hx,rfl⟩,by rw[h5];exact t2⟩,t3]
 ·split
  ·rename_i h2
   have h3:plnB n v nm (cnA op l).length=true:=by
    unfold plnB at h ⊢
    obtain⟨_,q⟩:=of_decide_eq_true h
    exact decide_eq_true ⟨h2,q⟩
   rw[ev_and r true hop h3,ev_and r true hop h,fold_cnA hop r l hun hw]
  ·rfl
theorem smp_wf{ks:List Int}{e:Ex}(h:(chk ks e).2=0):wfC (smp e):=by
 obtain⟨op,n,v,nm,nl,args⟩:=e
 obtain⟨hf,h1,h2⟩:=chk_ok h
 intro h3
 rw[smp_mk] at h3 ⊢
 by_cases h0:rawC (.mk op n v nm nl args)=[]
 ·rw[if_pos h0]
  exact⟨rfl,ev_valid [] _⟩
 ·rw[if_neg h0] at h3 ⊢
  unfold smF at h3 ⊢
  by_cases h5:(op=5\/op=6)/\plnB n v nm (args.map smp).length=true
  ·rw[if_pos h5] at h3 ⊢
   unfold cnX at h3 ⊢
   split
   ·exact⟨rfl,(vTruth_un op h5.1).2.2.2.2⟩
   ·rename_i h6
    rw[if_neg h6] at h3
    split at h3
    ·have h3:op=1:=h3
     omega
    ·have h3:op=1:=h3
     omega
  ·rw[if_neg h5] at h3
   have h3:op=1:=h3
   subst h3
   have h6:=of_decide_eq_true (show decide ((args.length:Int)=0)=true from fmd_cnt hf)
   have h7:args=[]:=List.length_eq_zero_iff.1 (by omega)
   subst h7
   exact absurd rfl h0
theorem mx_le'{l:List Nat}{B:Nat}:mx l<=B↔∀x∈l,x<=B:=by
 constructor
 ·intro h x hx
  have key:∀(l:List Nat) (a:Nat),l.foldl max a<=B->a<=B/\∀x∈l,x<=B:=by
   intro l
   induction l with
   |nil=>intro a h;exact⟨h,by simp⟩
   |cons y l ih=>
    intro a h
    obtain⟨h1,h2⟩:=ih _ h
    refine⟨by omega,λx hx=>?_⟩
    rcases List.mem_cons.1 hx with rfl|hx
    ·omega
    ·exact h2 x hx
  exact(key l 0 h).2 x hx
 ·exact mx_le
theorem LeL_map{l:List Ex}{f g:Ex->Int}(h:∀x∈l,Le0 (f x) (g x)):LeL (l.map f) (l.map g):=by
 induction l with
 |nil=>exact .nil
 |cons a l ih=>exact .cons (h a (by simp)) (ih λx hx=>h x (by simp[hx]))
theorem fe_all{l:List (Int×Int)}(h:∀x∈l,x.2=0):fe l=0:=by
 induction l with
 |nil=>rfl
 |cons a l ih=>rw[fe,if_pos (h a (by simp))];exact ih λx hx=>h x (by simp[hx])
theorem chk_node{ks:List Int}{op n:Int}{v:Vl}{nm:List UInt8}{nl:Bool}{l:List Ex}(hf:fmd op n v nm l.length=true)(h2:op≠2)(ha:∀a∈l,(chk ks a).2=0)(hr:(res op v (l.map λa=>(chk ks a).1)).2=true):chk ks (.mk op n v nm nl l)=((res op v (l.map λa=>(chk ks a).1)).1,0):=by
 rw[chk_mk,ckF_known hf h2,if_pos (fe_all λx hx=>by obtain⟨a,hm,rfl⟩:=List.mem_map.1 hx;exact ha a hm),List.map_map]
 show(if (res op v (l.map λa=>(chk ks a).1)).2=true then _ else _)=_
 rw[if_pos hr];rfl
theorem chk_cst{ks:List Int}{w:Vl}(h:vValid w=true):chk ks (cstX w)=(w.k,0):=by
 have:fmd 1 0 w [] ([]:List Ex).length=true:=by
  rw[fmd_1 0 w _ (by decide),h];rfl
 rw[chk_node this (by decide) (by simp) rfl];rfl
theorem nulls_fit(ks:List Int):fits (List.replicate ks.length vNull) ks=true:=by
 unfold fits
 rw[Bool.and_eq_true]
 refine⟨decide_eq_true (by simp),List.all_eq_true.2 λp hp=>?_⟩
 have h1:=(List.mem_replicate.1 (List.of_mem_zip hp).1).2
 unfold fitB
 rw[h1];rfl
theorem smp_ok(ks:List Int):∀e:Ex,(chk ks e).2=0->(∀r,ev r (smp e)=ev r e)/\(chk ks (smp e)).2=0/\Le0 (chk ks (smp e)).1 (chk ks e).1/\dep (smp e)<=dep e:=by
 refine Ex.ind λop n v nm nl args ih h=>?_
 obtain⟨hf,h1,h2⟩:=chk_ok h
 by_cases h0:rawC (.mk op n v nm nl args)=[]
 ·have e1:smp (.mk op n v nm nl args)=cstX (ev [] (.mk op n v nm nl args)):=by rw[smp_mk,if_pos h0]
  have hv:=ev_valid [] (.mk op n v nm nl args)
  have hcol:∀r,ev r (.mk op n v nm nl args)=ev [] (.mk op n v nm nl args):=λr=>ev_colS _ λc hc=>by rw[h0] at hc;cases hc
  rw[e1]
  refine⟨λr=>by rw[ev_cst r hv,hcol r],by rw[chk_cst hv],?_,?_⟩
  ·rw[chk_cst hv]
   have:=ev_kind (List.replicate ks.length vNull) ks (nulls_fit ks) _ h
   rw[hcol] at this
   exact this
  ·rw[dep_mk,dep_mk]
   show 1+0<=_
   omega
 ·have hop2:op=2->smp (.mk op n v nm nl args)=.mk op n v nm true args:=λh3=>by
   obtain⟨_,_,h6⟩:=h2 h3
   rw[smp_mk,if_neg h0]
   unfold smF
   rw[if_neg (by rintro⟨h,_⟩;omega),h6];rfl
  by_cases h3:op=2
  ·rw[hop2 h3]
   refine⟨λr=>by rw[ev_mk,ev_mk],by rw[chk_mk] at h ⊢;exact h,by rw[chk_mk,chk_mk];exact .inl rfl,by rw[dep_mk,dep_mk];exact Nat.le_refl _⟩
  ·obtain⟨ha,hr,hk⟩:=h1 h3
   have ih':=λa hm=>ih a hm (ha a hm)
   have hle:LeL ((args.map smp).map λa=>(chk ks a).1) (args.map λa=>(chk ks a).1):=by
    rw[List.map_map]
    exact LeL_map λa hm=>(ih' a hm).2.2.1
   obtain⟨r1,r2⟩:=res_le (v:=v) hle hr
   have hf':fmd op n v nm (args.map smp).length=true:=by rw[List.length_map];exact hf
   have hca:∀a∈args.map smp,(chk ks a).2=0:=λa hm=>by
    obtain⟨x,hx,rfl⟩:=List.mem_map.1 hm
    exact(ih' x hx).2.1
   have hnode:=chk_node (nl:=true) hf' h3 hca r1
   have hev:∀r,ev r (.mk op n v nm true (args.map smp))=ev r (.mk op n v nm nl args):=λr=>by
    rw[ev_mk,ev_mk,List.length_map,List.map_map,show args.map (ev r ∘ smp)=args.map (ev r) from List.map_congr_left λa hm=>(ih' a hm).1 r]
   have hdp:dep (.mk op n v nm true (args.map smp))<=dep (.mk op n v nm nl args):=by
    rw[dep_mk,dep_mk,List.map_map]
    have:mx (args.map (dep ∘ smp))<=mx (args.map dep):=mx_le'.2 λx hx=>by
     obtain⟨a,hm,rfl⟩:=List.mem_map.1 hx
     exact Nat.le_trans (ih' a hm).2.2.2 (mx_le'.1 (Nat.le_refl _) _ (List.mem_map.2 ⟨a,hm,rfl⟩))
    omega
   have hwf:∀x∈args.map smp,wfC x:=λx hx=>by
    obtain⟨a,hm,rfl⟩:=List.mem_map.1 hx
    exact smp_wf (ha a hm)
   rw[smp_mk,if_neg h0]
   unfold smF
   by_cases h5:(op=5\/op=6)/\plnB n v nm (args.map smp).length=true
   ·rw[if_pos h5]
    refine⟨λr=>(ev_cnX r h5.1 h5.2 hwf).trans (hev r),?_⟩
    have hk3:(chk ks (.mk op n v nm nl args)).1=3:=by
     rw[hk];unfold res
     rw[if_neg (by omega),if_pos (by omega)]
    have hal:allK ((args.map smp).map λa=>(chk ks a).1) 3=true:=by
     unfold res at r1
     rw[if_neg (by omega),if_pos (by omega)] at r1
     exact r1
    unfold cnX
    split
    ·rw[chk_cst (vTruth_un op h5.1).2.2.2.2,hk3]
     refine⟨rfl,.inl (by rcases h5.1 with h|h<;>subst h<;>rfl),?_⟩
     rw[dep_mk,dep_mk]
     show 1+0<=_
     omega
    ·split
     ·rename_i hs h6
      have hf2:fmd op n v nm (cnA op (args.map smp)).length=true:=by
       have hp:=h5.2
       unfold plnB at hp
       obtain⟨_,rfl,rfl,rfl⟩:=of_decide_eq_true hp
       have hc:(cnt op (cnA op (args.map smp)).length).1=true:=by
        rcases h5.1 with rfl|rfl
        ·show decide (2<=((cnA 5 (args.map smp)).length:Int))=true
         exact decide_eq_true (by omega)
        ·show decide (2<=((cnA 6 (args.map smp)).length:Int))=true
         exact decide_eq_true (by omega)
       rw[fmd_o op 0 vNull _ hc (by omega) (by omega) (by omega)]
       decide
      have hr2:res op v ((cnA op (args.map smp)).map λa=>(chk ks a).1)=(3,true):=by
       unfold res
       rw[if_neg (by omega),if_pos (by omega)]
       congr 1
       unfold allK at hal ⊢
       rw[List.all_eq_true] at hal ⊢
       intro x hx
       obtain⟨a,hm,rfl⟩:=List.mem_map.1 hx
       exact hal _ (List.mem_map.2 ⟨a,cnA_mem a hm,rfl⟩)
      rw[chk_node (nl:=true) hf2 h3 (λa hm=>hca a (cnA_mem a hm)) (by rw[hr2]),hr2,hk3]
      refine⟨rfl,.inl rfl,?_⟩
      refine Nat.le_trans ?_ hdp
      rw[dep_mk,dep_mk]
      have:mx ((cnA op (args.map smp)).map dep)<=mx ((args.map smp).map dep):=mx_le'.2 λx hx=>by
       obtain⟨a,hm,rfl⟩:=List.mem_map.1 hx
       exact mx_le'.1 (Nat.le_refl _) _ (List.mem_map.2 ⟨a,cnA_mem a hm,rfl⟩)
      omega
     ·rw[hnode]
      exact⟨rfl,by rw[hk];exact r2,hdp⟩
   ·rw[if_neg h5]
    rw[hnode]
    exact⟨hev,rfl,by rw[hk];exact r2,hdp⟩
end Go.Proofs
end
