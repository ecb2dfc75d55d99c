/- Texts of this claim, joined. No condition. -/
import Derived.Test.YtfnaleemmeejcaaGreatQ8
set_option linter.unusedSimpArgs false
set_option linter.unusedVariables false
set_option maxRecDepth 10000
set_option maxHeartbeats 4000000
section
namespace Go.Proofs
open Go.Bi
abbrev U6(p:Pl)(kd:D):AV:=.agg (p.ds.map .d++[.d kd])
abbrev F7(din:D):List AO:=[.cells [.d din]]
theorem A2w(K:List Kw)(hK:K.length<=4294967296)(hKb:∀k∈K,k.ks.length<=4294967296)(din:D)(hin:A9 din (E7 K))(p:Pl)(hb:p.bk<=1073741824) :
  B9 Tryz.prog A3c [.ptr 0 0,p.av] (F7 din) (λr os=>r=U6 p (C4 K p).1.d/\os=F7 din):=by
 have hC:=A5Z K hK hKb din hin p hb
 obtain⟨op',n',dk',dr',xo',xn',xv',xm',xd',dx',dy',da',di',c1,c2⟩:=Pl.cut p
 unfold U6
 rw[c2] at hC ⊢
 rw[c1]
 obtain⟨kd,hkd⟩:∃d,d=(C4 K p).1.d:=⟨_,rfl⟩
 obtain⟨ke,hke⟩:∃d,d=(C4 K p).2:=⟨_,rfl⟩
 rw[<- hkd,<- hke] at hC
 rw[<- hkd]
 clear hkd hke c1 c2
 have r0:xv'.k=xv'.k:=rfl
 have r1:xv'.s=xv'.s:=rfl
 have r2:xm'=xm':=rfl
 refine C8s.goX A6 rfl ?_
 repeat' first|refine st ?_|((with_reducible apply A4);conv=>whnf)|refine⟨λ_=>?_,λ_=>?_⟩|fail
 all_goals exact⟨rfl,rfl⟩
def N3(p:Pl)(l:List Ex):Pl:=if l.length=0 then p else Q7 3 0 (J6 false (l.map (B0 0))) [p]
theorem A7T(p:Pl)(l:List Ex)(hb:∀x∈l,x.bk<=1073741824)(hl:l.length<=1073741824)(d:D)(hd:A9 d (xL l)):Pure Tryz.prog B9n [p.av,.d d] (N3 p l).av:=by
 have hA:=A7U l hb hl d hd
 obtain⟨q,hq⟩:∃q,q=N3 p l:=⟨_,rfl⟩
 rw[<- hq]
 unfold N3 at hq
 have l1:=P0 l
 obtain⟨es,hes⟩:∃z,z=xL l:=⟨_,rfl⟩
 rw[<- hes] at hd l1
 clear hes
 have hpc:=Pl.cut p
 by_cases h:l.length=0
 ·rw[if_pos h] at hq
  subst hq
  have h0:(es.length:Int)=0:=by omega
  obtain⟨op',n',dk',dr',xo',xn',xv',xm',xd',dx',dy',da',di',c1,c2⟩:=hpc
  rw[c2]
  clear c1 c2 hA
  refine B4C.go A6 rfl ?_
  repeat' first|refine st ?_|((with_reducible apply A4);conv=>whnf)|refine⟨λ_=>?_,λ_=>?_⟩|fail
  all_goals rfl
 ·rw[if_neg h] at hq
  have h0:¬(es.length:Int)=0:=by omega
  subst hq
  obtain⟨e,he⟩:∃e,e=J6 false (l.map (B0 0)):=⟨_,rfl⟩
  rw[<- he] at hA ⊢
  clear he
  obtain⟨xo,xn,xv,xm,xl,xa⟩:=e
  rw[Ex.av_mk] at hA
  rw[A0h]
  have e1:ng true (pL [p])=.sl [p.ds]:=rfl
  rw[e1]
  obtain⟨op',n',dk',dr',xo',xn',xv',xm',xd',dx',dy',da',di',c1,c2⟩:=hpc
  rw[c1,c2]
  obtain⟨xd,hxd⟩:∃d,d=ng xl (xL xa):=⟨_,rfl⟩
  rw[<- hxd] at hA ⊢
  clear c1 c2 hxd e1
  refine B4C.go A6 rfl ?_
  repeat' first|refine st ?_|((with_reducible apply A4);conv=>whnf)|refine⟨λ_=>?_,λ_=>?_⟩|fail
  all_goals rfl
theorem j8{g:FuncId}{din:D}{r:AV}{ars:List AV}(h:B9 Tryz.prog g ars (F7 din) (λr' os'=>r'=r/\os'=F7 din))(ha:∀a∈ars,a.bnd2 1)(hr:∀f,mA f r=r)(rest:List AO) :
  B9 Tryz.prog g ars (F7 din++rest) (λr' os'=>r'=r/\os'=F7 din++rest):=
 B9.pre h rest ha (by
  intro o ho
  simp only[H2,U2,or_false] at ho
  subst ho;simp[AO.bnd,AV.bnd1]) (by
  rintro r' bs' ⟨rfl,rfl⟩
  refine⟨rfl,?_,hr,rfl,rfl⟩
  intro o ho
  simp only[H2,U2,or_false] at ho
  subst ho;simp[AO.bnd,AV.bnd1])
theorem A3O{g:FuncId}{din:D}{r:AV}{ars ars':List AV}(id:Nat)(h:B9 Tryz.prog g ars (F7 din) (λr' os'=>r'=r/\os'=F7 din))(hm:∀n,ars.map (mG (rn [id] n))=ars')(hba:∀a∈ars,a.bnd2 1)(hr:∀f,mA f r=r)(os:List AO)(ho:os[id]?=some (.cells [.d din])) :
  B9 Tryz.prog g ars' os (λr' os'=>r'=r/\os'=os):=by
 have:=B9.frame (K:=λr' os'=>r'=r/\os'=os) h [id] os rfl (by simp) (λi o hx=>?_) hba (λo hx=>?_) ?_
 ·rw[hm] at this;exact this
 ·cases i with
  |zero=>simp at hx;subst hx;exact ho
  |succ i=>simp at hx
 ·cases M7.1 hx
  simp[AO.bnd,AV.bnd1]
 ·rintro _ _ ⟨rfl,rfl⟩
  refine⟨hr _,?_⟩
  have hlt:=(B4.1 ho).1
  have e:os.set id (.cells [.d din])=os:=by
   apply List.ext_getElem?
   intro j
   rw[A4M]
   by_cases hj:id=j
   ·subst hj
    rw[if_pos rfl,if_pos hlt,ho]
   ·rw[if_neg hj]
  show V5 _ [id] (F7 din) os=os
  simp only[V5,mO,mC,H5,V7,U9]
  exact e
theorem l8(p:Pl)(kd:D):U6 p kd=.agg ((p.ds++[kd]).map .d):=by unfold U6;simp
theorem A1J(ds:List D):∀a∈[AV.ptr 0 0,.agg (ds.map .d)],a.bnd2 1:=by
 intro a ha
 simp only[H2,U2,or_false] at ha
 rcases ha with rfl|rfl
 ·simp[AV.bnd2,AV.bnd1]
 ·exact A08 _ _
theorem A2W(ds:List D)(d:D):∀a∈[AV.ptr 0 0,.agg (ds.map .d),.d d],a.bnd2 1:=by
 intro a ha
 simp only[H2,U2,or_false] at ha
 rcases ha with rfl|rfl|rfl
 ·simp[AV.bnd2,AV.bnd1]
 ·exact A08 _ _
 ·simp[AV.bnd2,AV.bnd1]
theorem B0j(din:D)(o:Po)(ni:Bool)(ins:List Pl)(ho:o.op≠3/\o.op≠5/\o.op≠6)(kd:D)(l:List Ex)(hb:∀x∈l,x.bk<=1073741824)(hl:l.length<=1073741824)(d:D)(hd:A9 d (xL l)) :
  B9 Tryz.prog m6 [.ptr 0 0,U6 (.mk o ni ins) kd,.d d] (F7 din) (λr os=>r=(N3 (.mk o ni ins) l).av/\os=F7 din):=by
 have hF:=A7T (.mk o ni ins) l hb hl d hd
 obtain⟨q,hq⟩:∃q,q=N3 (.mk o ni ins) l:=⟨_,rfl⟩
 rw[<- hq] at hF ⊢
 clear hq
 obtain⟨op',n',dk',dr',xo',xn',xv',xm',xd',dx',dy',da',di',c1,c2⟩:=Pl.cut q
 rw[c2] at hF ⊢
 obtain⟨o1,o2,o3⟩:=ho
 obtain⟨op,n,nk,ki,nr,rows,⟨xo,xn,xv,xm,xl,xa⟩,nx,xs,ny,keys,na,aggs⟩:=o
 dsimp only at o1 o2 o3
 have hds:(Pl.mk (⟨op,n,nk,ki,nr,rows,.mk xo xn xv xm xl xa,nx,xs,ny,keys,na,aggs⟩:Po) ni ins).ds=K1 op n (ng nk (A5 ki)) (ng nr (B7 rows)) xo xn xv xm (ng xl (xL xa)) (ng nx (xL xs)) (ng ny (A5 keys)) (ng na (I0 aggs)) (ng ni (pL ins)):=Pl.ds_eq _ _ _ _ _ _ _ _ _ rfl
 have hav:(Pl.mk (⟨op,n,nk,ki,nr,rows,.mk xo xn xv xm xl xa,nx,xs,ny,keys,na,aggs⟩:Po) ni ins).av=G3 op n (ng nk (A5 ki)) (ng nr (B7 rows)) xo xn xv xm (ng xl (xL xa)) (ng nx (xL xs)) (ng ny (A5 keys)) (ng na (I0 aggs)) (ng ni (pL ins)):=Pl.av_eq _ _ _ _ _ _ _ _ _ rfl
 rw[hav] at hF
 unfold U6
 rw[hds]
 obtain⟨dk,e1⟩:∃d,d=ng nk (A5 ki):=⟨_,rfl⟩
 obtain⟨dr,e2⟩:∃d,d=ng nr (B7 rows):=⟨_,rfl⟩
 obtain⟨dx,e3⟩:∃d,d=ng nx (xL xs):=⟨_,rfl⟩
 obtain⟨dy,e4⟩:∃d,d=ng ny (A5 keys):=⟨_,rfl⟩
 obtain⟨da,e5⟩:∃d,d=ng na (I0 aggs):=⟨_,rfl⟩
 obtain⟨di,e6⟩:∃d,d=ng ni (pL ins):=⟨_,rfl⟩
 obtain⟨xd,e7⟩:∃d,d=ng xl (xL xa):=⟨_,rfl⟩
 rw[<- e1,<- e2,<- e3,<- e4,<- e5,<- e6,<- e7] at hF ⊢
 clear e1 e2 e3 e4 e5 e6 e7 hav hds c1 c2
 have r0:xv.k=xv.k:=rfl
 have r1:xv.s=xv.s:=rfl
 have r2:xm=xm:=rfl
 have r3:xv'.s=xv'.s:=rfl
 have r4:xm'=xm':=rfl
 refine A61.goX A6 rfl ?_
 repeat' first|refine st ?_|((with_reducible apply A4);conv=>whnf)|refine⟨λ_=>?_,λ_=>?_⟩|fail
 all_goals exact⟨rfl,rfl⟩
abbrev C8(l:List Ex):List Ex:=(cj (J6 false (l.map (B0 0)))).map (B0 0)
theorem C5i(K:List Kw)(hK:K.length<=4294967296)(hKb:∀k∈K,k.ks.length<=4294967296)(din:D)(hin:A9 din (E7 K))(n:Int)(pred:Ex)(a b:Pl)(hab:a.bk<=1073741824)(hbb:b.bk<=1073741824)(kd:D)(l:List Ex)(hb:∀x∈l,x.bk<=1073741824)(hl:l.length<=1073741824)(d:D)(hd:A9 d (xL l))
  (hall:(J6 false (l.map (B0 0))).bk<=1073741824) (m:Nat) (hm:(C4 K a).1.ks.length=m) (hm2:m<=48) (hr:∀x∈C8 l,x.bk<=1073741824) (hrl:(C8 l).length<=1073741824) (ra rb:Pl)
  (hA:B9 Tryz.prog m6 [.ptr 0 0,U6 a (C4 K a).1.d,.d (M8 (xL (C6 m 0 (C8 l))))] (F7 din) (λr os=>r=ra.av/\os=F7 din))
  (hB:B9 Tryz.prog m6 [.ptr 0 0,U6 b (C4 K b).1.d,.d (ng true (xL ((C6 m 1 (C8 l)).map (B0 (0-m)))))] (F7 din) (λr os=>r=rb.av/\os=F7 din)) :
  B9 Tryz.prog m6 [.ptr 0 0,U6 (Q7 5 n pred [a,b]) kd,.d d] (F7 din) (λr os=>r=(N3 (Q7 5 n pred [ra,rb]) (C6 m 2 (C8 l))).av/\os=F7 din):=by
 have hTa:=A2w K hK hKb din hin a hab
 have hTb:=A2w K hK hKb din hin b hbb
 have hAl:=A7U l hb hl d hd
 have hSp:=B3R m (J6 false (l.map (B0 0))) hall
 have hsel:∀k:Nat,∀x∈C6 m k (C8 l),x∈C8 l:=λk x hx=>(m0.1 hx).1
 have hsl:∀k:Nat,(C6 m k (C8 l)).length<=1073741824:=λk=>K4 (A0K _ _) hrl
 have hFl:=A7T (Q7 5 n pred [ra,rb]) (C6 m 2 (C8 l)) (λx hx=>hr x (hsel 2 x hx)) (hsl 2) (M8 (xL (C6 m 2 (C8 l)))) (by rw[A3J];exact C7)
 have hSh:=λx hx=>A2v x (hr x (hsel 1 x hx)) (0-(m:Int))
 obtain⟨q,hq⟩:∃q,q=N3 (Q7 5 n pred [ra,rb]) (C6 m 2 (C8 l)):=⟨_,rfl⟩
 rw[<- hq] at hFl ⊢
 clear hq hb hl hall hrl hr
 have hska:A9 (C4 K a).1.d (A5 (C4 K a).1.ks):=C7
 have hkl:=F9 (C4 K a).1.ks
 rw[hm] at hkl
 obtain⟨ka,hka⟩:∃d,d=(C4 K a).1.d:=⟨_,rfl⟩
 obtain⟨kb,hkb⟩:∃d,d=(C4 K b).1.d:=⟨_,rfl⟩
 obtain⟨ek,hek⟩:∃z,z=A5 (C4 K a).1.ks:=⟨_,rfl⟩
 rw[<- hka] at hTa hA hska
 rw[<- hkb] at hTb hB
 rw[<- hek] at hska hkl
 clear hka hkb hek hm
 obtain⟨d0,hd0⟩:∃z,z=M8 (xL (C6 m 0 (C8 l))):=⟨_,rfl⟩
 obtain⟨d2,hd2⟩:∃z,z=M8 (xL (C6 m 2 (C8 l))):=⟨_,rfl⟩
 have hs1:A9 (M8 (xL (C6 m 1 (C8 l)))) (xL (C6 m 1 (C8 l))):=by rw[A3J];exact C7
 obtain⟨d1,hd1⟩:∃z,z=M8 (xL (C6 m 1 (C8 l))):=⟨_,rfl⟩
 have hSp:Bi.Pure Tryz.prog A4R [(J6 false (l.map (B0 0))).av,.d (eI m)] (.tup [.d (M8 (xL (C6 m 0 (C8 l)))),.d (M8 (xL (C6 m 1 (C8 l)))),.d (M8 (xL (C6 m 2 (C8 l))))]):=hSp
 rw[<- hd0,<- hd1,<- hd2] at hSp
 rw[<- hd0] at hA
 rw[<- hd1] at hs1
 rw[<- hd2] at hFl
 clear hd0 hd1 hd2
 obtain⟨L,hL⟩:∃z,z=C6 m 1 (C8 l):=⟨_,rfl⟩
 rw[<- hL] at hs1 hB hSh
 have hLl:L.length<=1073741824:=by rw[hL];exact hsl 1
 clear hsel hsl
 clear hL
 obtain⟨e,he⟩:∃e,e=J6 false (l.map (B0 0)):=⟨_,rfl⟩
 rw[<- he] at hAl hSp
 clear he
 obtain⟨eo,en,ev',em,el,ea⟩:=e
 rw[Ex.av_mk] at hAl hSp
 obtain⟨ed,hed⟩:∃d,d=ng el (xL ea):=⟨_,rfl⟩
 rw[<- hed] at hAl hSp
 clear hed
 have hm1:∀(ds:List D) n,[AV.ptr 0 0,.agg (ds.map .d)].map (mG (rn [0] n))=[.ptr 0 0,.agg (ds.map .d)]:=λds n=>by
  rw[H5,H5,V7,A2P];rfl
 have hTaL:=λos2 (ho:os2[0]?=some (AO.cells [.d din]))=>A3O 0 hTa (hm1 a.ds) (A1J _) (λf=>by rw[l8];exact R6 f _) os2 ho
 have hTbL:=λos2 (ho:os2[0]?=some (AO.cells [.d din]))=>A3O 0 hTb (hm1 b.ds) (A1J _) (λf=>by rw[l8];exact R6 f _) os2 ho
 clear hm1
 rw[show ng true (xL (L.map (B0 (0-(m:Int)))))=if (xL (L.map (B0 (0-(m:Int))))).isEmpty then .nil else .sl (xL (L.map (B0 (0-(m:Int))))) by cases xL (L.map (B0 (0-(m:Int))))<;>rfl] at hB
 have hAL:=λrest=>j8 hA (by rw[l8];exact A2W _ _) (λf=>R6 f _) rest
 have hBL:=λrest=>j8 hB (by rw[l8];exact A2W _ _) (λf=>R6 f _) rest
 clear hTa hTb hA hB
 unfold U6 at *
 obtain⟨xo,xn,xv,xm,xl,xa⟩:=pred
 rw[B2G]
 have hpav:(Q7 5 n (.mk xo xn xv xm xl xa) [ra,rb]).av=_:=A0h 5 n xo xn xv xm xl xa [ra,rb]
 rw[hpav] at hFl
 have e1:ng true (pL [a,b])=.sl [a.ds,b.ds]:=rfl
 have e2:ng true (pL [ra,rb])=.sl [ra.ds,rb.ds]:=rfl
 rw[e1]
 rw[e2] at hFl
 clear e1 e2 hpav
 obtain⟨xd,hxd⟩:∃d,d=ng xl (xL xa):=⟨_,rfl⟩
 rw[<- hxd] at hFl ⊢
 clear hxd
 obtain⟨ao,an,ak,ar,axo,axn,axv,axm,axd,adx,ady,ada,adi,a1,a2⟩:=Pl.cut a
 obtain⟨bo,bn,bk',br,bxo,bxn,bxv,bxm,bxd,bdx,bdy,bda,bdi,b1,b2⟩:=Pl.cut b
 obtain⟨co,cn,ck,cr,cxo,cxn,cxv,cxm,cxd,cdx,cdy,cda,cdi,c1,c2⟩:=Pl.cut ra
 obtain⟨do',dn,dk,dr,dxo,dxn,dxv,dxm,dxd,ddx,ddy,dda,ddi,d3,d4⟩:=Pl.cut rb
 obtain⟨fo,fn,fk,fr,fxo,fxn,fxv,fxm,fxd,fdx,fdy,fda,fdi,f1,f2⟩:=Pl.cut q
 have hTaL:∀os2:List AO,os2[0]?=some (AO.cells [.d din])->B9 Tryz.prog A3c [.ptr 0 0,G3 ao an ak ar axo axn axv axm axd adx ady ada adi] os2 (λr' os'=>r'=.agg ((K1 ao an ak ar axo axn axv axm axd adx ady ada adi).map .d++[.d ka])/\os'=os2):=λos2 ho=>by
  have:=hTaL os2 ho
  rw[a1] at this
  exact this
 have hTbL:∀os2:List AO,os2[0]?=some (AO.cells [.d din])->B9 Tryz.prog A3c [.ptr 0 0,G3 bo bn bk' br bxo bxn bxv bxm bxd bdx bdy bda bdi] os2 (λr' os'=>r'=.agg ((K1 bo bn bk' br bxo bxn bxv bxm bxd bdx bdy bda bdi).map .d++[.d kb])/\os'=os2):=λos2 ho=>by
  have:=hTbL os2 ho
  rw[b1] at this
  exact this
 rw[a1] at hAL ⊢
 rw[b1] at hBL ⊢
 rw[c2] at hAL
 rw[d4] at hBL
 rw[c1,d3,f2] at hFl
 rw[f2]
 clear a1 a2 b1 b2 c1 c2 d3 d4 f1 f2
 have lL:=P0 L
 have mL:=P2 L
 have gL:=λi x=>@Y1 L i x
 obtain⟨es,hes⟩:∃z,z=xL L:=⟨_,rfl⟩
 rw[<- hes] at hs1 lL mL gL
 clear hes
 rw[<- hkl] at hSp
 refine A61.goX A6 rfl ?_
 repeat' first|refine st ?_|((with_reducible apply A4);conv=>whnf)|((with_reducible apply B2j);(·first|exact hTaL|exact hTbL))|refine⟨λ_=>?_,λ_=>?_⟩|fail
 refine U7 13 7 rfl rfl ?_
 refine B08 ?_
 refine K6 A6 B0O B0L (λ(i:Nat)=>[.arr 5 (xL ((L.take i).map (B0 (0-(m:Int))))).length,.d (eI i)]) (λi=>[.cells [.d din],.cells [.d (eI 5),.d (eI n),.d .nil,.d .nil,.d (eI xo),.d (eI xn),.d (eI xv.k),.d (eI xv.n),.d (.str xv.s),.d (.str xm),.d xd,.d .nil,.d .nil,.d .nil,.d (.sl [K1 ao an ak ar axo axn axv axm axd adx ady ada adi,K1 bo bn bk' br bxo bxn bxv bxm bxd bdx bdy bda bdi]),.d kd],.cells [.d (eI 0),.d (eI 0),.d .nil,.d .nil,.d (eI 0),.d (eI 0),.d (eI 0),.d (eI 0),.d (.str []),.d (.str []),.d .nil,.d .nil,.d .nil,.d .nil,.d .nil],.cells [.d (eI ao),.d (eI an),.d ak,.d ar,.d (eI axo),.d (eI axn),.d (eI axv.k),.d (eI axv.n),.d (.str axv.s),.d (.str axm),.d axd,.d adx,.d ady,.d ada,.d adi,.d ka],.cells [.d (eI bo),.d (eI bn),.d bk',.d br,.d (eI bxo),.d (eI bxn),.d (eI bxv.k),.d (eI bxv.n),.d (.str bxv.s),.d (.str bxm),.d bxd,.d bdx,.d bdy,.d bda,.d bdi,.d kb],.arr (xL ((L.take i).map (B0 (0-(m:Int))))) 7 0 (xL ((L.take i).map (B0 (0-(m:Int))))).isEmpty]) (λi=>i<=L.length) (λi=>L.length-i) 0 rfl rfl rfl rfl (λ_ _=>⟨rfl,rfl⟩) rfl (by omega) ?_
 repeat' first|refine st ?_|((with_reducible apply A4);conv=>whnf)|refine⟨λ_=>?_,λ_=>?_⟩|fail
 intro i i1
 have hw1:(xL ((L.take i).map (B0 (0-(m:Int))))).length=i:=by rw[P0,D8,M4];omega
 have hwm:=P2 ((L.take i).map (B0 (0-(m:Int))))
 have hbd:((xL ((L.take i).map (B0 (0-(m:Int))))).length+1)*88<=140737488355328:=by omega
 cases hx:L[i]? with
 |some x=>
  have hlt:=(B4.1 hx).1
  have hilt:(i:Int)<es.length:=by omega
  have hg:=gL i x hx
  have hS:=hSh x (C3 hx)
  have ht:xL ((L.take (i+1)).map (B0 (0-(m:Int))))=xL ((L.take i).map (B0 (0-(m:Int))))++[(B0 (0-(m:Int)) x).ds]:=by rw[L8,hx];simp[xL]
  obtain⟨A,hA'⟩:∃z,z=xL ((L.take i).map (B0 (0-(m:Int)))):=⟨_,rfl⟩
  rw[<- hA'] at hw1 hwm hbd ht ⊢
  obtain⟨y,hy⟩:∃y,y=B0 (0-(m:Int)) x:=⟨_,rfl⟩
  rw[<- hy] at hS ht
  clear hy gL hx hA' hSh hTaL hTbL hAL hBL hFl hAl hSp
  obtain⟨x1,x2,x3,x4,x5,x6⟩:=x
  obtain⟨y1,y2,y3,y4,y5,y6⟩:=y
  rw[Ex.av_mk,Ex.av_mk] at hS
  rw[Ex.ds_mk] at hg ht
  have hg:es[((i:Nat):Int).toNat]?=some (T5 x1 x2 x3 x4 (ng x5 (xL x6))):=hg
  obtain⟨z1,hz1⟩:∃d,d=ng x5 (xL x6):=⟨_,rfl⟩
  obtain⟨z2,hz2⟩:∃d,d=ng y5 (xL y6):=⟨_,rfl⟩
  rw[<- hz1,<- hz2] at hS
  rw[<- hz1] at hg
  rw[<- hz2] at ht
  clear hz1 hz2
  rw[<- hkl] at hS
  have q0:x3.s=x3.s:=rfl
  have q1:x4=x4:=rfl
  have q2:y3.s=y3.s:=rfl
  have q3:y4=y4:=rfl
  repeat' first|refine st ?_|((with_reducible apply A4);conv=>whnf)|refine⟨λ_=>?_,λ_=>?_⟩|fail
  exact⟨i+1,by rw[ht];simp,rfl,by rw[ht];simp,by omega,by omega⟩
 |none=>
  have hge:=E9.1 hx
  have hilt:(es.length:Int)<=i:=by omega
  rw[H4 hge] at hw1 hwm hbd ⊢
  obtain⟨A,hA'⟩:∃z,z=xL (L.map (B0 (0-(m:Int)))):=⟨_,rfl⟩
  rw[<- hA'] at hw1 hwm hbd hBL ⊢
  clear gL hx hA' hSh hTaL hTbL hAl hSp
  repeat' first|refine st ?_|((with_reducible apply A4);conv=>whnf)|refine⟨λ_=>?_,λ_=>?_⟩|fail
  refine⟨_,_,j0.frz 13 rfl rfl rfl j0.refl,?_⟩
  refine A6X ?_
  repeat' first|refine st ?_|((with_reducible apply A4);conv=>whnf)|((with_reducible first|apply O8|apply O7);(·first|exact hAL _|exact hBL _);(try rintro _ _ ⟨rfl,rfl⟩))|((with_reducible apply O9);(·first|exact hAL _|exact hBL _))|refine⟨λ_=>?_,λ_=>?_⟩|fail
  all_goals exact⟨rfl,rfl⟩
theorem A9w(ds:List D)(g:FuncId):∀a∈[AV.agg (ds.map .d),.bcl g 0],a.bnd2 1:=by
 intro a ha
 simp only[H2,U2,or_false] at ha
 rcases ha with rfl|rfl
 ·exact A08 _ _
 ·simp[AV.bnd2,AV.bnd1]
theorem B3S(din:D)(Φ:Pl->Pl)(op n:Int)(pred:Ex)(ins:List Pl)(hop:op≠3)(hpb:pred.bk<=1073741824)(hil:ins.length<=1073741824)(hf:∀x∈ins,B9 Tryz.prog S7 [.ptr 0 0,x.av] (F7 din) (λr os=>r=(Φ x).av/\os=F7 din)) :
  B9 Tryz.prog S7 [.ptr 0 0,(Q7 op n pred ins).av] (F7 din) (λr os=>r=(Q7 op n (B0 0 pred) (ins.map Φ)).av/\os=F7 din):=by
 have hM:=B3N S7 Φ din op n pred hpb ins hil hf
 have hML:=λrest=>j8 hM (A9w _ _) (λf=>R6 f _) rest
 clear hM hf
 obtain⟨e2,he2⟩:∃e,e=B0 0 pred:=⟨_,rfl⟩
 rw[<- he2] at hML ⊢
 clear he2 hpb
 obtain⟨xo,xn,xv,xm,xl,xa⟩:=pred
 obtain⟨yo,yn,yv,ym,yl,ya⟩:=e2
 have e1:=A0h op n xo xn xv xm xl xa ins
 have e2:=A0h op n yo yn yv ym yl ya (ins.map Φ)
 rw[e1,e2] at hML ⊢
 obtain⟨xd,hxd⟩:∃d,d=ng xl (xL xa):=⟨_,rfl⟩
 obtain⟨yd,hyd⟩:∃d,d=ng yl (xL ya):=⟨_,rfl⟩
 obtain⟨d1,hd1⟩:∃d,d=ng true (pL ins):=⟨_,rfl⟩
 obtain⟨d2,hd2⟩:∃d,d=ng true (pL (ins.map Φ)):=⟨_,rfl⟩
 rw[<- hxd,<- hyd,<- hd1,<- hd2] at hML ⊢
 clear hxd hyd hd1 hd2 e1 e2
 have r0:xv.k=xv.k:=rfl
 have r1:xv.s=xv.s:=rfl
 have r2:xm=xm:=rfl
 have r3:yv.s=yv.s:=rfl
 have r4:ym=ym:=rfl
 refine A84.goX A6 rfl ?_
 repeat' first|refine st ?_|((with_reducible apply A4);conv=>whnf)|((with_reducible first|apply O8|apply O7);(·exact hML _);(try rintro _ _ ⟨rfl,rfl⟩))|((with_reducible apply O9);(·exact hML _))|refine⟨λ_=>?_,λ_=>?_⟩|fail
 all_goals first|exact⟨rfl,rfl⟩|(exfalso;omega)
theorem C5n(K:List Kw)(hK:K.length<=4294967296)(hKb:∀k∈K,k.ks.length<=4294967296)(din:D)(hin:A9 din (E7 K))(n:Int)(pred:Ex)(a b q:Pl)(hpb:pred.bk<=1073741824)(hpb2:(B0 0 pred).bk<=1073741824)(hbb:b.bk<=1073741824)(hf:B9 Tryz.prog S7 [.ptr 0 0,a.av] (F7 din) (λr os=>r=b.av/\os=F7 din))
  (hP:B9 Tryz.prog m6 [.ptr 0 0,U6 b (C4 K b).1.d,.d (M8 (xL ((cj (B0 0 pred)).map (B0 0))))] (F7 din) (λr os=>r=q.av/\os=F7 din)) :
  B9 Tryz.prog S7 [.ptr 0 0,(Q7 3 n pred [a]).av] (F7 din) (λr os=>r=q.av/\os=F7 din):=by
 have hM:=B3N S7 (λ_=>b) din 3 n pred hpb [a] (by simp) (λx hx=>by rw[M7.1 hx];exact hf)
 have hML:=λrest=>j8 hM (A9w _ _) (λf=>R6 f _) rest
 have hT:=A2w K hK hKb din hin b hbb
 have hC:=A7V (B0 0 pred) hpb2
 have hTL:=λrest=>j8 hT (A1J _) (λf=>by rw[l8];exact R6 f _) rest
 have hPL:=λrest=>j8 hP (by rw[l8];exact A2W _ _) (λf=>R6 f _) rest
 clear hM hf hT hP
 obtain⟨d,hd⟩:∃d,d=M8 (xL ((cj (B0 0 pred)).map (B0 0))):=⟨_,rfl⟩
 rw[<- hd] at hC hPL
 clear hd
 obtain⟨kd,hkd⟩:∃d,d=(C4 K b).1.d:=⟨_,rfl⟩
 rw[<- hkd] at hTL hPL
 clear hkd
 obtain⟨e2,he2⟩:∃e,e=B0 0 pred:=⟨_,rfl⟩
 rw[<- he2] at hML hC
 clear he2 hpb hpb2
 obtain⟨xo,xn,xv,xm,xl,xa⟩:=pred
 obtain⟨yo,yn,yv,ym,yl,ya⟩:=e2
 have e1:=A0h 3 n xo xn xv xm xl xa [a]
 have e2:=A0h 3 n yo yn yv ym yl ya [b]
 have hML:∀rest,B9 Tryz.prog A2B [(Q7 3 n (.mk xo xn xv xm xl xa) [a]).av,.bcl S7 0] (F7 din++rest) (λr' os'=>r'=(Q7 3 n (.mk yo yn yv ym yl ya) [b]).av/\os'=F7 din++rest):=hML
 rw[e1,e2] at hML
 rw[e1]
 rw[Ex.av_mk] at hC
 unfold U6 at hTL hPL
 obtain⟨xd,hxd⟩:∃d,d=ng xl (xL xa):=⟨_,rfl⟩
 obtain⟨yd,hyd⟩:∃d,d=ng yl (xL ya):=⟨_,rfl⟩
 have e3:ng true (pL [a])=.sl [a.ds]:=rfl
 have e4:ng true (pL [b])=.sl [b.ds]:=rfl
 rw[<- hxd,<- hyd,e3,e4] at hML
 rw[<- hxd,e3]
 rw[<- hyd] at hC
 clear hxd hyd e1 e2 e3 e4
 obtain⟨ao,an,ak,ar,axo,axn,axv,axm,axd,adx,ady,ada,adi,a1,a2⟩:=Pl.cut a
 obtain⟨bo,bn,bk',br,bxo,bxn,bxv,bxm,bxd,bdx,bdy,bda,bdi,b1,b2⟩:=Pl.cut b
 obtain⟨fo,fn,fk,fr,fxo,fxn,fxv,fxm,fxd,fdx,fdy,fda,fdi,f1,f2⟩:=Pl.cut q
 rw[a1] at hML ⊢
 rw[b1] at hML hTL hPL
 rw[b2] at hTL
 rw[f2] at hPL ⊢
 clear a1 a2 b1 b2 f1 f2
 have r0:xv.k=xv.k:=rfl
 have r1:xv.s=xv.s:=rfl
 have r2:xm=xm:=rfl
 have r3:yv.s=yv.s:=rfl
 have r4:ym=ym:=rfl
 refine A84.goX A6 rfl ?_
 repeat' first|refine st ?_|((with_reducible apply A4);conv=>whnf)|((with_reducible first|apply O8|apply O7);(·first|exact hML _|exact hTL _|exact hPL _);(try rintro _ _ ⟨rfl,rfl⟩))|((with_reducible apply O9);(·first|exact hML _|exact hTL _|exact hPL _))|refine⟨λ_=>?_,λ_=>?_⟩|fail
 all_goals first|exact⟨rfl,rfl⟩|(exfalso;omega)
theorem C6q(K:List Kw)(hK:K.length<=4294967296)(hKb:∀k∈K,k.ks.length<=4294967296)(din:D)(hin:A9 din (E7 K))(g:FuncId)(p q:Pl)(hpb:p.bk<=1073741824)(hqb:q.bk<=1073741824)(hg:B9 Tryz.prog g [.ptr 0 0,p.av] (F7 din) (λr os=>r=q.av/\os=F7 din))
  (h1:(C4 K p).2=0) (h2:(C4 K q).2=0) (h3:(C4 K p).1.ks=(C4 K q).1.ks) (h4:(C4 K p).1.ks.length<=48) :
  B9 Tryz.prog A4Q [.ptr 0 0,p.av,.bcl g 0] (F7 din) (λr os=>r=q.av/\os=F7 din):=by
 have hCp:=A5Z K hK hKb din hin p hpb
 have hCq:=A5Z K hK hKb din hin q hqb
 have hE:=B4j (C4 K p).1.ks (C4 K q).1.ks (by omega) (by rw[<- h3];omega) (C4 K p).1.d (C4 K q).1.d C7 C7
 rw[decide_eq_true h3] at hE
 rw[h1] at hCp
 rw[h2] at hCq
 obtain⟨kp,hkp⟩:∃d,d=(C4 K p).1.d:=⟨_,rfl⟩
 obtain⟨kq,hkq⟩:∃d,d=(C4 K q).1.d:=⟨_,rfl⟩
 rw[<- hkp] at hCp hE
 rw[<- hkq] at hCq hE
 clear hkp hkq h1 h2 h3 h4
 have hgL:=λrest=>j8 hg (A1J _) (λf=>R6 f _) rest
 clear hg
 obtain⟨ao,an,ak,ar,axo,axn,axv,axm,axd,adx,ady,ada,adi,a1,a2⟩:=Pl.cut p
 obtain⟨bo,bn,bk',br,bxo,bxn,bxv,bxm,bxd,bdx,bdy,bda,bdi,b1,b2⟩:=Pl.cut q
 rw[a2] at hCp hgL ⊢
 rw[b2] at hCq hgL ⊢
 clear a1 a2 b1 b2
 have r0:axv.s=axv.s:=rfl
 have r1:axm=axm:=rfl
 have r2:bxv.s=bxv.s:=rfl
 have r3:bxm=bxm:=rfl
 refine A85.goX A6 rfl ?_
 repeat' first|refine st ?_|((with_reducible apply A4);conv=>whnf)|((with_reducible first|apply O8|apply O7);(·exact hgL _);(try rintro _ _ ⟨rfl,rfl⟩))|((with_reducible apply O9);(·exact hgL _))|refine⟨λ_=>?_,λ_=>?_⟩|fail
 all_goals exact⟨rfl,rfl⟩
theorem C5b(K:List Kw)(hK:K.length<=4294967296)(hKb:∀k∈K,k.ks.length<=4294967296)(din:D)(hin:A9 din (E7 K))(p q:Pl)(hpb:p.bk<=1073741824)(hqb:q.bk<=1073741824)(hg:B9 Tryz.prog S7 [.ptr 0 0,p.av] (F7 din) (λr os=>r=q.av/\os=F7 din))
  (h1:(C4 K p).2=0) (h2:(C4 K q).2=0) (h3:(C4 K p).1.ks=(C4 K q).1.ks) (h4:(C4 K p).1.ks.length<=48):Pure Tryz.prog A6d [p.av,.d din] q.av:=by
 have hS:=C6q K hK hKb din hin _ p q hpb hqb hg h1 h2 h3 h4
 have hm1:∀(ds:List D) n,[AV.ptr 0 0,.agg (ds.map .d),.bcl S7 0].map (mG (rn [2] n))=[.ptr 2 0,.agg (ds.map .d),.bcl S7 2]:=λds n=>by
  rw[H5,H5,H5,V7,A2P];rfl
 have hSL:=λos (ho:os[2]?=some (AO.cells [.d din]))=>A3O 2 hS (hm1 p.ds) (λa ha=>by
  simp only[H2,U2,or_false] at ha
  rcases ha with rfl|rfl|rfl
  ·simp[AV.bnd2,AV.bnd1]
  ·exact A08 _ _
  ·simp[AV.bnd2,AV.bnd1]) (λf=>R6 f _) os ho
 clear hS hm1 hg
 obtain⟨ao,an,ak,ar,axo,axn,axv,axm,axd,adx,ady,ada,adi,a1,a2⟩:=Pl.cut p
 obtain⟨bo,bn,bk',br,bxo,bxn,bxv,bxm,bxd,bdx,bdy,bda,bdi,b1,b2⟩:=Pl.cut q
 have hSL:∀os:List AO,os[2]?=some (AO.cells [.d din])->B9 Tryz.prog A4Q [.ptr 2 0,G3 ao an ak ar axo axn axv axm axd adx ady ada adi,.bcl S7 2] os (λr' os'=>r'=G3 bo bn bk' br bxo bxn bxv bxm bxd bdx bdy bda bdi/\os'=os):=λos ho=>by
  have:=hSL os ho
  rw[a1] at this
  rw[<- b2]
  exact this
 rw[a2,b2]
 clear a1 a2 b1 b2
 have r0:axv.s=axv.s:=rfl
 have r1:axm=axm:=rfl
 have r2:bxv.s=bxv.s:=rfl
 have r3:bxm=bxm:=rfl
 refine B4y.go A6 rfl ?_
 repeat' first|refine st ?_|((with_reducible apply A4);conv=>whnf)|((with_reducible first|apply O8|apply O7);(·exact hSL _ rfl);(try rintro _ _ ⟨rfl,rfl⟩))|((with_reducible apply O9);(·exact hSL _ rfl))|refine⟨λ_=>?_,λ_=>?_⟩|fail
 all_goals rfl
end Go.Proofs
end
section
namespace Go.Proofs
open Go.Bi
theorem B0i(l:List Ex)(hl:l.length<=1073741824)(hb:∀x∈l,x.bk<=1073741824)(d:D)(hd:A9 d (xL l)):Pure Tryz.prog B1b [.d d] (.d (ng true (xL (l.map (B0 0))))):=by
 have hSh:=λx hx=>A2v x (hb x hx) 0
 have lL:=P0 l
 have mL:=P2 l
 have gL:=λi x=>@Y1 l i x
 obtain⟨es,hes⟩:∃z,z=xL l:=⟨_,rfl⟩
 rw[<- hes] at hd lL mL gL
 clear hes hb
 refine B4B.go A6 rfl ?_
 repeat' first|refine st ?_|((with_reducible apply A4);conv=>whnf)|refine⟨λ_=>?_,λ_=>?_⟩|fail
 refine U7 3 7 rfl rfl ?_
 refine K6 A6 D1f C9Y (λ(i:Nat)=>[.arr 0 (xL ((l.take i).map (B0 0))).length,.d (eI i)]) (λi=>[.arr (xL ((l.take i).map (B0 0))) 7 0 (xL ((l.take i).map (B0 0))).isEmpty]) (λi=>i<=l.length) (λi=>l.length-i) 0 rfl rfl rfl rfl (λ_ _=>⟨rfl,rfl⟩) rfl (by omega) ?_
 repeat' first|refine st ?_|((with_reducible apply A4);conv=>whnf)|refine⟨λ_=>?_,λ_=>?_⟩|fail
 intro i i1
 have hw1:(xL ((l.take i).map (B0 0))).length=i:=by rw[P0,D8,M4];omega
 have hwm:=P2 ((l.take i).map (B0 0))
 have hbd:((xL ((l.take i).map (B0 0))).length+1)*88<=140737488355328:=by omega
 cases hx:l[i]? with
 |some x=>
  have hlt:=(B4.1 hx).1
  have hilt:(i:Int)<es.length:=by omega
  have hg:=gL i x hx
  have hS:=hSh x (C3 hx)
  have ht:xL ((l.take (i+1)).map (B0 0))=xL ((l.take i).map (B0 0))++[(B0 0 x).ds]:=by rw[L8,hx];simp[xL]
  obtain⟨A,hA'⟩:∃z,z=xL ((l.take i).map (B0 0)):=⟨_,rfl⟩
  rw[<- hA'] at hw1 hwm hbd ht ⊢
  obtain⟨y,hy⟩:∃y,y=B0 0 x:=⟨_,rfl⟩
  rw[<- hy] at hS ht
  clear hy gL hx hA' hSh
  obtain⟨x1,x2,x3,x4,x5,x6⟩:=x
  obtain⟨y1,y2,y3,y4,y5,y6⟩:=y
  rw[Ex.av_mk,Ex.av_mk] at hS
  rw[Ex.ds_mk] at hg ht
  have hg:es[((i:Nat):Int).toNat]?=some (T5 x1 x2 x3 x4 (ng x5 (xL x6))):=hg
  obtain⟨z1,hz1⟩:∃d,d=ng x5 (xL x6):=⟨_,rfl⟩
  obtain⟨z2,hz2⟩:∃d,d=ng y5 (xL y6):=⟨_,rfl⟩
  rw[<- hz1,<- hz2] at hS
  rw[<- hz1] at hg
  rw[<- hz2] at ht
  clear hz1 hz2
  repeat' first|refine st ?_|((with_reducible apply A4);conv=>whnf)|refine⟨λ_=>?_,λ_=>?_⟩|fail
  exact⟨i+1,by rw[ht];simp,rfl,by rw[ht];simp,by omega,by omega⟩
 |none=>
  have hge:=E9.1 hx
  have hilt:(es.length:Int)<=i:=by omega
  rw[H4 hge] at hw1 hwm hbd ⊢
  obtain⟨A,hA'⟩:∃z,z=xL (l.map (B0 0)):=⟨_,rfl⟩
  rw[<- hA'] at hw1 hwm hbd ⊢
  clear gL hx hA' hSh
  repeat' first|refine st ?_|((with_reducible apply A4);conv=>whnf)|refine⟨λ_=>?_,λ_=>?_⟩|fail
  all_goals (cases A<;>rfl)
mutual
/-- The scans of a plan. -/
def D9:Pl->List Int
 |.mk o _ ins=>(if o.op=1 then [o.n] else [])++A7v ins
def A7v:List Pl->List Int
 |[]=>[]
 |p::r=>D9 p++A7v r
end
theorem C3B:∀l,A7v l=l.flatMap D9
 |[]=>by simp[A7v]
 |e::es=>by simp[A7v,C3B es]
theorem A2j(o:Po)(ni:Bool)(ins:List Pl):D9 (.mk o ni ins)=(if o.op=1 then [o.n] else [])++ins.flatMap D9:=by rw[D9,C3B]
theorem D9g{l:List Pl}(h:∀p∈l,(D9 p).length<=p.bk):(l.flatMap D9).length<=D6 (pL l):=by
 induction l with
 |nil=>simp
 |cons a l ih=>
  have h1:=h a (by simp)
  have h2:=ih λb hb=>h b (by simp[hb])
  rw[A41,H8]
  simp only[pL,H5,D6]
  unfold Pl.bk at h1
  unfold pL at h2
  omega
theorem B32:∀p:Pl,(D9 p).length<=p.bk:=by
 refine Pl.ind λo ni ins ih=>?_
 have h1:=D9g ih
 have h2:=Pl.bk_mk o ni ins
 rw[A2j,H8]
 have:(if o.op=1 then [o.n] else []).length<=1:=by split<;>simp
 omega
theorem B3P:∀p:Pl,p.bk<=1073741824->Pure Tryz.prog B9l [p.av] (.d (ng true (A5 (D9 p)))):=by
 refine Pl.ind λo ni ins ih hb=>?_
 have hB:=Pl.bd hb
 have hbk:∀i:Nat,((if o.op=1 then [o.n] else [])++(ins.take i).flatMap D9).length<=1073741824:=λi=>by
  have h1:=B32 (.mk o ni ins)
  rw[A2j] at h1
  have h2:((ins.take i).flatMap D9).length<=(ins.flatMap D9).length:=by
   conv=>rhs;rw[<- A45 i ins,List.flatMap_append,H8]
   omega
  rw[H8] at h1 ⊢
  omega
 have hq:=A2j o ni ins
 obtain⟨q,hqq⟩:∃q,q=D9 (.mk o ni ins):=⟨_,rfl⟩
 rw[<- hqq] at hq ⊢
 clear hqq
 obtain⟨xo,xn,xv,xm,xd,hav,_⟩:=Pl.cuto o ni ins
 rw[hav]
 have hdi:A9 (ng ni (pL ins)) (pL ins):=C7
 obtain⟨dk,e1⟩:∃d,d=o.dk:=⟨_,rfl⟩
 obtain⟨dr,e2⟩:∃d,d=o.dr:=⟨_,rfl⟩
 obtain⟨dx,e3⟩:∃d,d=o.dx:=⟨_,rfl⟩
 obtain⟨dy,e4⟩:∃d,d=o.dy:=⟨_,rfl⟩
 obtain⟨da,e5⟩:∃d,d=o.da:=⟨_,rfl⟩
 obtain⟨di,e6⟩:∃d,d=ng ni (pL ins):=⟨_,rfl⟩
 rw[<- e1,<- e2,<- e3,<- e4,<- e5,<- e6]
 rw[<- e6] at hdi
 clear e1 e2 e3 e4 e5 e6 hav
 have l1:=b5 ins
 have m1:=e9 ins
 have g1:=λi p=>@j6 ins i p
 obtain⟨es,hes⟩:∃z,z=pL ins:=⟨_,rfl⟩
 rw[<- hes] at hdi l1 m1 g1
 clear hes
 have hil:=hB.il
 have hsub:=hB.sub
 clear hB hb
 obtain⟨op,hop⟩:∃x,x=o.op:=⟨_,rfl⟩
 obtain⟨n,hn⟩:∃x,x=o.n:=⟨_,rfl⟩
 rw[<- hop,<- hn] at hq ⊢
 have hbk:∀i:Nat,((if op=1 then [n] else [])++(ins.take i).flatMap D9).length<=1073741824:=by rw[hop,hn];exact hbk
 clear hop hn
 obtain⟨F0,hF⟩:∃z,z=if op=1 then [n] else []:=⟨_,rfl⟩
 rw[<- hF] at hq hbk
 by_cases h1:op=1
 ·subst h1
  rw[if_pos rfl] at hF
  subst hF
  refine B4z.go A6 rfl ?_
  repeat' first|refine st ?_|((with_reducible apply A4);conv=>whnf)|refine⟨λ_=>?_,λ_=>?_⟩|fail
  refine K6 A6 B7L B7C (λ(i:Nat)=>[.arr 2 (A5 ([n]++(ins.take i).flatMap D9)).length,.d (eI i)]) (λi=>[.cells [.d (eI 1),.d (eI n),.d dk,.d dr,.d (eI xo),.d (eI xn),.d (eI xv.k),.d (eI xv.n),.d (.str xv.s),.d (.str xm),.d xd,.d dx,.d dy,.d da,.d di],.arr [[eI n]] 1 0 false,.arr (A5 ([n]++(ins.take i).flatMap D9)) 1 0 false]) (λi=>i<=ins.length) (λi=>ins.length-i) 0 rfl rfl rfl rfl (λ_ _=>⟨rfl,rfl⟩) rfl (by omega) ?_
  repeat' first|refine st ?_|((with_reducible apply A4);conv=>whnf)|refine⟨λ_=>?_,λ_=>?_⟩|fail
  intro i i1
  have hb1:=hbk i
  have hb2:=hbk (i+1)
  have hwl:=F9 ([n]++(ins.take i).flatMap D9)
  have hwm:=I1 ([n]++(ins.take i).flatMap D9)
  cases hx:ins[i]? with
  |some p=>
   have hlt:=(B4.1 hx).1
   have hilt:(i:Int)<es.length:=by omega
   have hg:=g1 i p hx
   have hI:=ih p (C3 hx) (hsub p (C3 hx))
   have ht0:(ins.take (i+1)).flatMap D9=(ins.take i).flatMap D9++D9 p:=by rw[L8,hx];simp
   have ht:A5 ([n]++(ins.take (i+1)).flatMap D9)=A5 ([n]++(ins.take i).flatMap D9)++A5 (D9 p):=by rw[ht0];simp[A5]
   rw[ht0] at hb2
   have hsl:=F9 (D9 p)
   have hsm:=I1 (D9 p)
   have hsd:A9 (ng true (A5 (D9 p))) (A5 (D9 p)):=C7
   obtain⟨A,hA⟩:∃z,z=A5 ([n]++(ins.take i).flatMap D9):=⟨_,rfl⟩
   rw[<- hA] at hwl hwm ht ⊢
   have hb3:A.length+(A5 (D9 p)).length<=1073741824:=by
    rw[hsl,hwl]
    simp only[H8] at hb2 ⊢
    omega
   obtain⟨op',n',dk',dr',xo',xn',xv',xm',xd',dx',dy',da',di',c1,c2⟩:=Pl.cut p
   have hg:es[((i:Nat):Int).toNat]?=some (K1 op' n' dk' dr' xo' xn' xv' xm' xd' dx' dy' da' di'):=by rw[<- c1];exact hg
   rw[c2] at hI
   obtain⟨B,hB⟩:∃z,z=A5 (D9 p):=⟨_,rfl⟩
   rw[<- hB] at hI ht hsm hsd hb3
   obtain⟨sd,hsdd⟩:∃z,z=ng true B:=⟨_,rfl⟩
   rw[<- hsdd] at hI hsd
   have hbd:(A.length+B.length)*8<=140737488355328/\A.length+B.length<=9223372036854775807:=by omega
   clear hsl hsdd hB hA c1 c2 hx g1 ih hbk hb1 hb2 hwl
   rcases hsd with ⟨rfl,rfl⟩|rfl
   ·have hbd0:(A.length+([]:List (List D)).length)*8<=140737488355328:=hbd.1
    repeat' first|refine st ?_|((with_reducible apply A4);conv=>whnf)|refine⟨λ_=>?_,λ_=>?_⟩|fail
    exact⟨i+1,by rw[ht];simp,rfl,by rw[ht];simp,by omega,by omega⟩
   ·repeat' first|refine st ?_|((with_reducible apply A4);conv=>whnf)|refine⟨λ_=>?_,λ_=>?_⟩|fail
    exact⟨i+1,by rw[ht];simp,rfl,by rw[ht];simp,by omega,by omega⟩
  |none=>
   have hge:=E9.1 hx
   have hilt:(es.length:Int)<=i:=by omega
   rw[H4 hge] at hwl hwm hb1 ⊢
   rw[hq]
   have hne:ng true (A5 ([n]++ins.flatMap D9))=.sl (A5 ([n]++ins.flatMap D9)):=rfl
   rw[hne]
   obtain⟨A,hA⟩:∃z,z=A5 ([n]++ins.flatMap D9):=⟨_,rfl⟩
   rw[<- hA] at hwl hwm ⊢
   clear hx g1 ih hA hne
   repeat' first|refine st ?_|((with_reducible apply A4);conv=>whnf)|refine⟨λ_=>?_,λ_=>?_⟩|fail
   all_goals rfl
 ·rw[if_neg h1] at hF
  subst hF
  have hq:q=ins.flatMap D9:=hq
  have hbk:∀i:Nat,((ins.take i).flatMap D9).length<=1073741824:=hbk
  refine B4z.go A6 rfl ?_
  repeat' first|refine st ?_|((with_reducible apply A4);conv=>whnf)|refine⟨λ_=>?_,λ_=>?_⟩|fail
  refine U7 3 1 rfl rfl ?_
  refine K6 A6 B7L B7C (λ(i:Nat)=>[.arr 1 (A5 ((ins.take i).flatMap D9)).length,.d (eI i)]) (λi=>[.cells [.d (eI op),.d (eI n),.d dk,.d dr,.d (eI xo),.d (eI xn),.d (eI xv.k),.d (eI xv.n),.d (.str xv.s),.d (.str xm),.d xd,.d dx,.d dy,.d da,.d di],.arr (A5 ((ins.take i).flatMap D9)) 1 0 (A5 ((ins.take i).flatMap D9)).isEmpty]) (λi=>i<=ins.length) (λi=>ins.length-i) 0 rfl rfl rfl rfl (λ_ _=>⟨rfl,rfl⟩) rfl (by omega) ?_
  repeat' first|refine st ?_|((with_reducible apply A4);conv=>whnf)|refine⟨λ_=>?_,λ_=>?_⟩|fail
  intro i i1
  have hb1:=hbk i
  have hb2:=hbk (i+1)
  have hwl:=F9 ((ins.take i).flatMap D9)
  have hwm:=I1 ((ins.take i).flatMap D9)
  cases hx:ins[i]? with
  |some p=>
   have hlt:=(B4.1 hx).1
   have hilt:(i:Int)<es.length:=by omega
   have hg:=g1 i p hx
   have hI:=ih p (C3 hx) (hsub p (C3 hx))
   have ht0:(ins.take (i+1)).flatMap D9=(ins.take i).flatMap D9++D9 p:=by rw[L8,hx];simp
   have ht:A5 ((ins.take (i+1)).flatMap D9)=A5 ((ins.take i).flatMap D9)++A5 (D9 p):=by rw[ht0];simp[A5]
   rw[ht0] at hb2
   have hsl:=F9 (D9 p)
   have hsm:=I1 (D9 p)
   have hsd:A9 (ng true (A5 (D9 p))) (A5 (D9 p)):=C7
   obtain⟨A,hA⟩:∃z,z=A5 ((ins.take i).flatMap D9):=⟨_,rfl⟩
   rw[<- hA] at hwl hwm ht ⊢
   have hb3:A.length+(A5 (D9 p)).length<=1073741824:=by
    rw[hsl,hwl]
    simp only[H8] at hb2 ⊢
    omega
   obtain⟨op',n',dk',dr',xo',xn',xv',xm',xd',dx',dy',da',di',c1,c2⟩:=Pl.cut p
   have hg:es[((i:Nat):Int).toNat]?=some (K1 op' n' dk' dr' xo' xn' xv' xm' xd' dx' dy' da' di'):=by rw[<- c1];exact hg
   rw[c2] at hI
   obtain⟨B,hB⟩:∃z,z=A5 (D9 p):=⟨_,rfl⟩
   rw[<- hB] at hI ht hsm hsd hb3
   obtain⟨sd,hsdd⟩:∃z,z=ng true B:=⟨_,rfl⟩
   rw[<- hsdd] at hI hsd
   have hbd:(A.length+B.length)*8<=140737488355328/\A.length+B.length<=9223372036854775807:=by omega
   clear hsl hsdd hB hA c1 c2 hx g1 ih hbk hb1 hb2 hwl
   rcases hsd with ⟨rfl,rfl⟩|rfl
   ·have hbd0:(A.length+([]:List (List D)).length)*8<=140737488355328:=hbd.1
    repeat' first|refine st ?_|((with_reducible apply A4);conv=>whnf)|refine⟨λ_=>?_,λ_=>?_⟩|fail
    exact⟨i+1,by rw[ht];simp,rfl,by rw[ht];cases A<;>simp,by omega,by omega⟩
   ·repeat' first|refine st ?_|((with_reducible apply A4);conv=>whnf)|refine⟨λ_=>?_,λ_=>?_⟩|fail
    exact⟨i+1,by rw[ht];simp,rfl,by rw[ht];cases A<;>cases B<;>rfl,by omega,by omega⟩
  |none=>
   have hge:=E9.1 hx
   have hilt:(es.length:Int)<=i:=by omega
   rw[H4 hge] at hwl hwm hb1 ⊢
   rw[hq]
   obtain⟨A,hA⟩:∃z,z=A5 (ins.flatMap D9):=⟨_,rfl⟩
   rw[<- hA] at hwl hwm ⊢
   clear hx g1 ih hA
   repeat' first|refine st ?_|((with_reducible apply A4);conv=>whnf)|refine⟨λ_=>?_,λ_=>?_⟩|fail
   all_goals (cases A<;>rfl)
abbrev A2M(v:Vl):Ex:=.mk 1 0 v [] true []
abbrev D5s(i:Int):Ex:=.mk 2 i E6 [] true []
abbrev H0(i n:Int):Ex:=.mk 7 0 E6 [] true [D5s i,A2M ⟨1,n,[]⟩]
theorem B0g(i n:Int):Pure Tryz.prog B7X [.d (eI i),.d (eI n)] (H0 i n).av:=by
 rw[Ex.av_mk]
 refine C6J.go A6 rfl ?_
 repeat' first|refine st ?_|((with_reducible apply A4);conv=>whnf)|refine⟨λ_=>?_,λ_=>?_⟩|fail
 all_goals rfl
theorem B3M(x e:Ex)(hx:x.bk<=1073741824)(he:e.bk<=1073741824)(h:k9 x e=true):Pure Tryz.prog B7W [.d (.sl [x.ds]),e.av] (.d (.bool true)):=by
 have hS:=C5s x (by omega) e (by omega)
 rw[h] at hS
 clear h hx he
 obtain⟨x1,x2,x3,x4,x5,x6⟩:=x
 obtain⟨y1,y2,y3,y4,y5,y6⟩:=e
 rw[Ex.av_mk,Ex.av_mk] at hS
 rw[Ex.av_mk,Ex.ds_mk]
 obtain⟨z1,hz1⟩:∃d,d=ng x5 (xL x6):=⟨_,rfl⟩
 obtain⟨z2,hz2⟩:∃d,d=ng y5 (xL y6):=⟨_,rfl⟩
 rw[<- hz1,<- hz2] at hS ⊢
 clear hz1 hz2
 refine C6I.go A6 rfl ?_
 repeat' first|refine st ?_|((with_reducible apply A4);conv=>whnf)|refine⟨λ_=>?_,λ_=>?_⟩|fail
 refine A2r 1 (u6 A6 ?_)
 repeat' first|refine st ?_|((with_reducible apply A4);conv=>whnf)|refine⟨λ_=>?_,λ_=>?_⟩|fail
 all_goals rfl
theorem B0f(n input:Int)(pred:Ex):Pure Tryz.prog A3b [(Q7 1 n pred []).av,.d (eI input)] (.tup [.d .nil,.d (.bool (decide (n=input))),.d (.bool (decide (n=input)))]):=by
 obtain⟨xo,xn,xv,xm,xl,xa⟩:=pred
 rw[A0h]
 obtain⟨xd,hxd⟩:∃d,d=ng xl (xL xa):=⟨_,rfl⟩
 rw[<- hxd,show ng true (pL [])=.nil from rfl]
 clear hxd
 refine A60.go A6 rfl ?_
 repeat' first|refine st ?_|((with_reducible apply A4);conv=>whnf)|refine⟨λ_=>?_,λ_=>?_⟩|fail
 refine A2r 1 (u6 A6 ?_)
 repeat' first|refine st ?_|((with_reducible apply A4);conv=>whnf)|refine⟨λ_=>?_,λ_=>?_⟩|fail
 all_goals rfl
theorem B0e(n input:Int)(pred:Ex)(x:Pl)(b:Bool)(hx:Pure Tryz.prog A3b [x.av,.d (eI input)] (.tup [.d .nil,.d (.bool b),.d (.bool b)])) :
  Pure Tryz.prog A3b [(Q7 3 n pred [x]).av,.d (eI input)] (.tup [.d (if b then .sl [pred.ds] else .nil),.d (.bool b),.d (.bool b)]):=by
 obtain⟨xo,xn,xv,xm,xl,xa⟩:=pred
 rw[A0h,Ex.ds_mk]
 obtain⟨xd,hxd⟩:∃d,d=ng xl (xL xa):=⟨_,rfl⟩
 rw[<- hxd,show ng true (pL [x])=.sl [x.ds] from rfl]
 clear hxd
 obtain⟨ao,an,ak,ar,axo,axn,axv,axm,axd,adx,ady,ada,adi,a1,a2⟩:=Pl.cut x
 rw[a2] at hx
 rw[a1]
 clear a1 a2
 cases b with
 |true=>
  refine A60.go A6 rfl ?_
  repeat' first|refine st ?_|((with_reducible apply A4);conv=>whnf)|refine⟨λ_=>?_,λ_=>?_⟩|fail
  refine A2r 1 (u6 A6 ?_)
  repeat' first|refine st ?_|((with_reducible apply A4);conv=>whnf)|refine⟨λ_=>?_,λ_=>?_⟩|fail
  all_goals rfl
 |false=>
  refine A60.go A6 rfl ?_
  repeat' first|refine st ?_|((with_reducible apply A4);conv=>whnf)|refine⟨λ_=>?_,λ_=>?_⟩|fail
  refine A2r 2 (u6 A6 ?_)
  repeat' first|refine st ?_|((with_reducible apply A4);conv=>whnf)|refine⟨λ_=>?_,λ_=>?_⟩|fail
  refine u6 A6 ?_
  repeat' first|refine st ?_|((with_reducible apply A4);conv=>whnf)|refine⟨λ_=>?_,λ_=>?_⟩|fail
  all_goals rfl
theorem B3L(n input:Int)(pred:Ex)(x y:Pl)(b:Bool)(dx dy:D)(hx:Pure Tryz.prog A3b [x.av,.d (eI input)] (.tup [.d dx,.d (.bool b),.d (.bool b)]))(hy:b=false->Pure Tryz.prog A3b [y.av,.d (eI input)] (.tup [.d dy,.d (.bool true),.d (.bool true)])) :
  Pure Tryz.prog A3b [(Q7 5 n pred [x,y]).av,.d (eI input)] (.tup [.d (if b then dx else dy),.d (.bool true),.d (.bool false)]):=by
 obtain⟨xo,xn,xv,xm,xl,xa⟩:=pred
 rw[A0h]
 obtain⟨xd,hxd⟩:∃d,d=ng xl (xL xa):=⟨_,rfl⟩
 rw[<- hxd,show ng true (pL [x,y])=.sl [x.ds,y.ds] from rfl]
 clear hxd
 obtain⟨ao,an,ak,ar,axo,axn,axv,axm,axd,adx,ady,ada,adi,a1,a2⟩:=Pl.cut x
 obtain⟨bo,bn,bk',br,bxo,bxn,bxv,bxm,bxd,bdx,bdy,bda,bdi,b1,b2⟩:=Pl.cut y
 rw[a2] at hx
 rw[a1,b1]
 rw[b2] at hy
 clear a1 a2 b1 b2
 cases b with
 |true=>
  clear hy
  refine A60.go A6 rfl ?_
  repeat' first|refine st ?_|((with_reducible apply A4);conv=>whnf)|refine⟨λ_=>?_,λ_=>?_⟩|fail
  refine A2r 1 (u6 A6 ?_)
  repeat' first|refine st ?_|((with_reducible apply A4);conv=>whnf)|refine⟨λ_=>?_,λ_=>?_⟩|fail
  all_goals rfl
 |false=>
  have hy:=hy rfl
  refine A60.go A6 rfl ?_
  repeat' first|refine st ?_|((with_reducible apply A4);conv=>whnf)|refine⟨λ_=>?_,λ_=>?_⟩|fail
  refine A2r 2 (u6 A6 ?_)
  repeat' first|refine st ?_|((with_reducible apply A4);conv=>whnf)|refine⟨λ_=>?_,λ_=>?_⟩|fail
  refine u6 A6 ?_
  repeat' first|refine st ?_|((with_reducible apply A4);conv=>whnf)|refine⟨λ_=>?_,λ_=>?_⟩|fail
  all_goals rfl
end Go.Proofs
end
section
namespace Go.Proofs
open Go.Bi
theorem A7R(es:List (List D))(hl:es.length<=1073741825)(hm:∀e∈es,e.length=1)(d:D)(hd:A9 d es):Pure Tryz.prog A8s [.d d] (.d d):=by
 rcases hd with ⟨rfl,rfl⟩|rfl
 all_goals refine B0A.go A6 rfl ?_
 all_goals repeat' first|refine st ?_|((with_reducible apply A4);conv=>whnf)|refine⟨λ_=>?_,λ_=>?_⟩|fail
 all_goals (cases es<;>rfl)
theorem B3C(es:List (List D))(hl:es.length<=1073741825)(hm:∀e∈es,e.length=2)(d:D)(hd:A9 d es):Pure Tryz.prog B1d [.d d] (.d d):=by
 rcases hd with ⟨rfl,rfl⟩|rfl
 all_goals refine B4G.go A6 rfl ?_
 all_goals repeat' first|refine st ?_|((with_reducible apply A4);conv=>whnf)|refine⟨λ_=>?_,λ_=>?_⟩|fail
 all_goals (cases es<;>rfl)
theorem B3D(es:List (List D))(hl:es.length<=1073741825)(hm:∀e∈es,e.length=3)(d:D)(hd:A9 d es):Pure Tryz.prog B9r [.d d] (.d d):=by
 rcases hd with ⟨rfl,rfl⟩|rfl
 all_goals refine C8v.go A6 rfl ?_
 all_goals repeat' first|refine st ?_|((with_reducible apply A4);conv=>whnf)|refine⟨λ_=>?_,λ_=>?_⟩|fail
 all_goals (cases es<;>rfl)
abbrev m8(o:Po):Po:=⟨o.op,o.n,o.nk,o.ki,true,o.rows,B0 0 o.pred,true,o.xs.map (B0 0),o.ny,o.keys,o.na,o.aggs⟩
theorem B3O(g:FuncId)(Φ:Pl->Pl)(o:Po)(ni:Bool)(ins:List Pl)(hb:(Pl.mk o ni ins).bk<=1073741824)(din:D)(hf:∀x∈ins,B9 Tryz.prog g [.ptr 0 0,x.av] (F7 din) (λr os=>r=(Φ x).av/\os=F7 din)) :
  B9 Tryz.prog A2B [(Pl.mk o ni ins).av,.bcl g 0] (F7 din) (λr os=>r=(Pl.mk (m8 o) true (ins.map Φ)).av/\os=F7 din):=by
 have hB:=Pl.bd hb
 have hil:=hB.il
 have hS:=A2v o.pred hB.pred 0
 have hcp:=B0i o.xs hB.xs hB.xb (ng o.nx (xL o.xs)) C7
 have hk1:=A7R (A5 o.ki) (by rw[F9];have:=hB.ki;omega) (I1 _) (ng o.nk (A5 o.ki)) C7
 have hk2:=A7R (A5 o.keys) (by rw[F9];have:=hB.keys;omega) (I1 _) (ng o.ny (A5 o.keys)) C7
 have hk3:=B3C (I0 o.aggs) (by rw[A5c];have:=hB.aggs;omega) (A6H _) (ng o.na (I0 o.aggs)) C7
 have hk4:=λ(r:Rw) (hr:r∈o.rows)=>B3D (B6 r.vs) (by rw[X3];have:=(hB.row r hr).1;omega) (T7 _) r.d C7
 have hrl:=hB.nr
 clear hB hb
 obtain⟨op,n,nk,ki,nr,rows,pred,nx,xs,ny,keys,na,aggs⟩:=o
 dsimp only at hS hcp hk1 hk2 hk3 hk4 hrl
 obtain⟨xo,xn,xv,xm,xl,xa⟩:=pred
 obtain⟨e2,he2⟩:∃e,e=B0 0 (.mk xo xn xv xm xl xa):=⟨_,rfl⟩
 unfold m8
 dsimp only
 rw[<- he2] at hS ⊢
 clear he2
 obtain⟨yo,yn,yv,ym,yl,ya⟩:=e2
 rw[Ex.av_mk,Ex.av_mk] at hS
 rw[Pl.av_eq _ _ _ _ _ _ _ _ _ rfl,Pl.av_eq _ _ _ _ _ _ _ _ _ rfl]
 have hdi:A9 (ng ni (pL ins)) (pL ins):=C7
 have hdr:A9 (ng nr (B7 rows)) (B7 rows):=C7
 obtain⟨dk,e1⟩:∃d,d=ng nk (A5 ki):=⟨_,rfl⟩
 obtain⟨dr,e2⟩:∃d,d=ng nr (B7 rows):=⟨_,rfl⟩
 obtain⟨dx,e3⟩:∃d,d=ng nx (xL xs):=⟨_,rfl⟩
 obtain⟨dy,e4⟩:∃d,d=ng ny (A5 keys):=⟨_,rfl⟩
 obtain⟨da,e5⟩:∃d,d=ng na (I0 aggs):=⟨_,rfl⟩
 obtain⟨di,e6⟩:∃d,d=ng ni (pL ins):=⟨_,rfl⟩
 obtain⟨dx2,e7⟩:∃d,d=ng true (xL (xs.map (B0 0))):=⟨_,rfl⟩
 obtain⟨xd,hxd⟩:∃d,d=ng xl (xL xa):=⟨_,rfl⟩
 obtain⟨yd,hyd⟩:∃d,d=ng yl (xL ya):=⟨_,rfl⟩
 rw[<- hxd,<- hyd] at hS
 rw[<- e3,<- e7] at hcp
 rw[<- e1] at hk1
 rw[<- e4] at hk2
 rw[<- e5] at hk3
 rw[<- e6] at hdi
 rw[<- e2] at hdr
 have hgoal:B9 Tryz.prog A2B [G3 op n dk dr xo xn xv xm xd dx dy da di,.bcl g 0] (F7 din) (λr os=>r=G3 op n dk (ng true (B7 rows)) yo yn yv ym yd dx2 dy da (ng true (pL (ins.map Φ)))/\os=F7 din):=by
  clear e1 e2 e3 e4 e5 e6 e7 hxd hyd
  have l1:=b5 ins
  have m1:=e9 ins
  have g1:=λi p=>@j6 ins i p
  obtain⟨es,hes⟩:∃z,z=pL ins:=⟨_,rfl⟩
  rw[<- hes] at hdi l1 m1 g1
  have l2:=U8 rows
  have m2:=X2 rows
  have g2:=λi p=>@A0W rows i p
  obtain⟨rs,hrs⟩:∃z,z=B7 rows:=⟨_,rfl⟩
  rw[<- hrs] at hdr l2 m2 g2
  have hrs2:=hrs
  clear hes hrs
  have r0:xv.k=xv.k:=rfl
  have r1:xv.s=xv.s:=rfl
  have r2:xm=xm:=rfl
  have r3:yv.s=yv.s:=rfl
  have r4:ym=ym:=rfl
  refine B0x.goX A6 rfl ?_
  repeat' first|refine st ?_|((with_reducible apply A4);conv=>whnf)|refine⟨λ_=>?_,λ_=>?_⟩|fail
  refine A1U 3 3 1 rfl rfl rfl ?_
  refine K6 A6 B7M B7D (λ(i:Nat)=>[.d (eI i)]) (λi=>[.cells [.d din],.cells [.d (eI op),.d (eI n),.d dk,.d dr,.d (eI xo),.d (eI xn),.d (eI xv.k),.d (eI xv.n),.d (.str xv.s),.d (.str xm),.d xd,.d dx,.d dy,.d da,.d di],.cells [.d (eI 0),.d (eI 0),.d .nil,.d .nil,.d (eI 0),.d (eI 0),.d (eI 0),.d (eI 0),.d (.str []),.d (.str []),.d .nil,.d .nil,.d .nil,.d .nil,.d .nil],.cells [.d (eI op),.d (eI n),.d dk,.arr 8 (B7 (rows.take i)).length,.d (eI yo),.d (eI yn),.d (eI yv.k),.d (eI yv.n),.d (.str yv.s),.d (.str ym),.d yd,.d dx2,.d dy,.d da,.d .nil],.hole,.hole,.hole,.hole,.arr (B7 (rows.take i)) 1 0 (B7 (rows.take i)).isEmpty]) (λi=>i<=rows.length) (λi=>rows.length-i) 0 rfl rfl rfl rfl (λ_ _=>⟨rfl,rfl⟩) rfl (by omega) ?_
  repeat' first|refine st ?_|((with_reducible apply A4);conv=>whnf)|refine⟨λ_=>?_,λ_=>?_⟩|fail
  intro i i1
  have hw1:(B7 (rows.take i)).length=i:=by rw[U8,M4];omega
  have hwm:=X2 (rows.take i)
  have hbd:((B7 (rows.take i)).length+1)*24<=140737488355328:=by omega
  cases hx:rows[i]? with
  |some r=>
   have hlt:=(B4.1 hx).1
   have hilt:(i:Int)<rs.length:=by omega
   have hg:rs[((i:Nat):Int).toNat]?=some [r.d]:=g2 i r hx
   have hK:=hk4 r (C3 hx)
   have ht:B7 (rows.take (i+1))=B7 (rows.take i)++[[r.d]]:=by rw[L8,hx];simp[B7]
   obtain⟨A,hA⟩:∃z,z=B7 (rows.take i):=⟨_,rfl⟩
   rw[<- hA] at hw1 hwm hbd ht ⊢
   obtain⟨rd,hrd⟩:∃d,d=r.d:=⟨_,rfl⟩
   rw[<- hrd] at hg hK ht
   clear g1 g2 hx hA hf hrd hS hcp hk1 hk2 hk3 hk4 hrs2
   repeat' first|refine st ?_|((with_reducible apply A4);conv=>whnf)|refine⟨λ_=>?_,λ_=>?_⟩|fail
   exact⟨i+1,rfl,rfl,by rw[ht];simp,by omega,by omega⟩
  |none=>
   have hge:=E9.1 hx
   have hilt:(rs.length:Int)<=i:=by omega
   rw[H4 hge,<- hrs2] at hw1 hwm hbd ⊢
   obtain⟨ww,hww⟩:∃z,z=rs:=⟨_,rfl⟩
   rw[<- hww] at hw1 hwm hbd ⊢
   clear hx hk1 hk2 hk3 hk4 hS hcp g2 hww hrs2
   repeat' first|refine st ?_|((with_reducible apply A4);conv=>whnf)|refine⟨λ_=>?_,λ_=>?_⟩|fail
   refine A1U 3 14 15 rfl rfl rfl ?_
   refine K6 A6 B0N B0K (λ(i:Nat)=>[.d (eI i)]) (λi=>[.cells [.d din],.cells [.d (eI op),.d (eI n),.d dk,.d dr,.d (eI xo),.d (eI xn),.d (eI xv.k),.d (eI xv.n),.d (.str xv.s),.d (.str xm),.d xd,.d dx,.d dy,.d da,.d di],.cells [.d (eI 0),.d (eI 0),.d .nil,.d .nil,.d (eI 0),.d (eI 0),.d (eI 0),.d (eI 0),.d (.str []),.d (.str []),.d .nil,.d .nil,.d .nil,.d .nil,.d .nil],.cells [.d (eI op),.d (eI n),.d dk,.arr 8 ww.length,.d (eI yo),.d (eI yn),.d (eI yv.k),.d (eI yv.n),.d (.str yv.s),.d (.str ym),.d yd,.d dx2,.d dy,.d da,.arr 9 (pL ((ins.take i).map Φ)).length],.hole,.hole,.hole,.hole,.arr ww 1 0 ww.isEmpty,.arr (pL ((ins.take i).map Φ)) 15 0 (pL ((ins.take i).map Φ)).isEmpty]) (λi=>i<=ins.length) (λi=>ins.length-i) 0 rfl rfl rfl rfl (λ_ _=>⟨rfl,rfl⟩) rfl (by omega) ?_
   repeat' first|refine st ?_|((with_reducible apply A4);conv=>whnf)|refine⟨λ_=>?_,λ_=>?_⟩|fail
   intro i i1
   have hv1:(pL ((ins.take i).map Φ)).length=i:=by rw[b5,D8,M4];omega
   have hvm:=e9 ((ins.take i).map Φ)
   have hbd2:((pL ((ins.take i).map Φ)).length+1)*248<=140737488355328:=by omega
   cases hx:ins[i]? with
   |some p=>
    have hlt:=(B4.1 hx).1
    have hilt:(i:Int)<es.length:=by omega
    have hg:=g1 i p hx
    have hL:=λrest=>C2n (hf p (C3 hx)) (λf=>R6 f _) rest
    have ht:pL ((ins.take (i+1)).map Φ)=pL ((ins.take i).map Φ)++[(Φ p).ds]:=by rw[L8,hx];simp[pL]
    obtain⟨A,hA⟩:∃z,z=pL ((ins.take i).map Φ):=⟨_,rfl⟩
    rw[<- hA] at hv1 hvm hbd2 ht ⊢
    obtain⟨op',n',dk',dr',xo',xn',xv',xm',xd',dx',dy',da',di',c1,c2⟩:=Pl.cut p
    obtain⟨op1,n1,dk1,dr1,xo1,xn1,xv1,xm1,xd1,dx1,dy1,da1,di1,c3,c4⟩:=Pl.cut (Φ p)
    have hg:es[((i:Nat):Int).toNat]?=some (K1 op' n' dk' dr' xo' xn' xv' xm' xd' dx' dy' da' di'):=by rw[<- c1];exact hg
    have hL:∀rest,B9 Tryz.prog g [.ptr 0 0,G3 op' n' dk' dr' xo' xn' xv' xm' xd' dx' dy' da' di'] ([.cells [.d din]]++rest) (λr' os'=>r'=G3 op1 n1 dk1 dr1 xo1 xn1 xv1 xm1 xd1 dx1 dy1 da1 di1/\os'=[.cells [.d din]]++rest):=λrest=>by rw[<- c2,<- c4];exact hL rest
    rw[c3] at ht
    clear g1 hx hA hf c1 c2 c3 c4
    repeat' first|refine st ?_|((with_reducible apply A4);conv=>whnf)|((with_reducible first|apply O8|apply O7);(·exact hL _);(try rintro _ _ ⟨rfl,rfl⟩))|((with_reducible apply O9);(·exact hL _))|refine⟨λ_=>?_,λ_=>?_⟩|fail
    exact⟨i+1,rfl,rfl,by rw[ht];simp,by omega,by omega⟩
   |none=>
    have hge:=E9.1 hx
    have hilt:(es.length:Int)<=i:=by omega
    rw[H4 hge] at hv1 hvm hbd2 ⊢
    obtain⟨A,hA⟩:∃z,z=pL (ins.map Φ):=⟨_,rfl⟩
    rw[<- hA] at hv1 hvm hbd2 ⊢
    clear g1 hx hA hf
    repeat' first|refine st ?_|((with_reducible apply A4);conv=>whnf)|refine⟨λ_=>?_,λ_=>?_⟩|fail
    all_goals exact⟨by cases ww<;>cases A<;>rfl,rfl⟩
 rw[e1,e2,e3,e4,e5,e6,e7,hxd,hyd] at hgoal
 exact hgoal
theorem C5a(g:FuncId)(Φ:Pl->Pl)(o:Po)(ni:Bool)(ins:List Pl)(hb:(Pl.mk o ni ins).bk<=1073741824)(hf:∀x∈ins,Pure Tryz.prog g [x.av] (Φ x).av) :
  Pure Tryz.prog A2B [(Pl.mk o ni ins).av,.d (.fn g)] (Pl.mk (m8 o) true (ins.map Φ)).av:=by
 have hB:=Pl.bd hb
 have hil:=hB.il
 have hS:=A2v o.pred hB.pred 0
 have hcp:=B0i o.xs hB.xs hB.xb (ng o.nx (xL o.xs)) C7
 have hk1:=A7R (A5 o.ki) (by rw[F9];have:=hB.ki;omega) (I1 _) (ng o.nk (A5 o.ki)) C7
 have hk2:=A7R (A5 o.keys) (by rw[F9];have:=hB.keys;omega) (I1 _) (ng o.ny (A5 o.keys)) C7
 have hk3:=B3C (I0 o.aggs) (by rw[A5c];have:=hB.aggs;omega) (A6H _) (ng o.na (I0 o.aggs)) C7
 have hk4:=λ(r:Rw) (hr:r∈o.rows)=>B3D (B6 r.vs) (by rw[X3];have:=(hB.row r hr).1;omega) (T7 _) r.d C7
 have hrl:=hB.nr
 clear hB hb
 obtain⟨op,n,nk,ki,nr,rows,pred,nx,xs,ny,keys,na,aggs⟩:=o
 dsimp only at hS hcp hk1 hk2 hk3 hk4 hrl
 obtain⟨xo,xn,xv,xm,xl,xa⟩:=pred
 obtain⟨e2,he2⟩:∃e,e=B0 0 (.mk xo xn xv xm xl xa):=⟨_,rfl⟩
 unfold m8
 dsimp only
 rw[<- he2] at hS ⊢
 clear he2
 obtain⟨yo,yn,yv,ym,yl,ya⟩:=e2
 rw[Ex.av_mk,Ex.av_mk] at hS
 rw[Pl.av_eq _ _ _ _ _ _ _ _ _ rfl,Pl.av_eq _ _ _ _ _ _ _ _ _ rfl]
 have hdi:A9 (ng ni (pL ins)) (pL ins):=C7
 have hdr:A9 (ng nr (B7 rows)) (B7 rows):=C7
 obtain⟨dk,e1⟩:∃d,d=ng nk (A5 ki):=⟨_,rfl⟩
 obtain⟨dr,e2⟩:∃d,d=ng nr (B7 rows):=⟨_,rfl⟩
 obtain⟨dx,e3⟩:∃d,d=ng nx (xL xs):=⟨_,rfl⟩
 obtain⟨dy,e4⟩:∃d,d=ng ny (A5 keys):=⟨_,rfl⟩
 obtain⟨da,e5⟩:∃d,d=ng na (I0 aggs):=⟨_,rfl⟩
 obtain⟨di,e6⟩:∃d,d=ng ni (pL ins):=⟨_,rfl⟩
 obtain⟨dx2,e7⟩:∃d,d=ng true (xL (xs.map (B0 0))):=⟨_,rfl⟩
 obtain⟨xd,hxd⟩:∃d,d=ng xl (xL xa):=⟨_,rfl⟩
 obtain⟨yd,hyd⟩:∃d,d=ng yl (xL ya):=⟨_,rfl⟩
 rw[<- hxd,<- hyd] at hS
 rw[<- e3,<- e7] at hcp
 rw[<- e1] at hk1
 rw[<- e4] at hk2
 rw[<- e5] at hk3
 rw[<- e6] at hdi
 rw[<- e2] at hdr
 have hgoal:Bi.Pure Tryz.prog A2B [G3 op n dk dr xo xn xv xm xd dx dy da di,.d (.fn g)] (G3 op n dk (ng true (B7 rows)) yo yn yv ym yd dx2 dy da (ng true (pL (ins.map Φ)))):=by
  clear e1 e2 e3 e4 e5 e6 e7 hxd hyd
  have l1:=b5 ins
  have m1:=e9 ins
  have g1:=λi p=>@j6 ins i p
  obtain⟨es,hes⟩:∃z,z=pL ins:=⟨_,rfl⟩
  rw[<- hes] at hdi l1 m1 g1
  have l2:=U8 rows
  have m2:=X2 rows
  have g2:=λi p=>@A0W rows i p
  obtain⟨rs,hrs⟩:∃z,z=B7 rows:=⟨_,rfl⟩
  rw[<- hrs] at hdr l2 m2 g2
  have hrs2:=hrs
  clear hes hrs
  have r0:xv.k=xv.k:=rfl
  have r1:xv.s=xv.s:=rfl
  have r2:xm=xm:=rfl
  have r3:yv.s=yv.s:=rfl
  have r4:ym=ym:=rfl
  refine B0x.go A6 rfl ?_
  repeat' first|refine st ?_|((with_reducible apply A4);conv=>whnf)|refine⟨λ_=>?_,λ_=>?_⟩|fail
  refine A1U 2 3 1 rfl rfl rfl ?_
  refine K6 A6 B7M B7D (λ(i:Nat)=>[.d (eI i)]) (λi=>[.cells [.d (eI op),.d (eI n),.d dk,.d dr,.d (eI xo),.d (eI xn),.d (eI xv.k),.d (eI xv.n),.d (.str xv.s),.d (.str xm),.d xd,.d dx,.d dy,.d da,.d di],.cells [.d (eI 0),.d (eI 0),.d .nil,.d .nil,.d (eI 0),.d (eI 0),.d (eI 0),.d (eI 0),.d (.str []),.d (.str []),.d .nil,.d .nil,.d .nil,.d .nil,.d .nil],.cells [.d (eI op),.d (eI n),.d dk,.arr 7 (B7 (rows.take i)).length,.d (eI yo),.d (eI yn),.d (eI yv.k),.d (eI yv.n),.d (.str yv.s),.d (.str ym),.d yd,.d dx2,.d dy,.d da,.d .nil],.hole,.hole,.hole,.hole,.arr (B7 (rows.take i)) 1 0 (B7 (rows.take i)).isEmpty]) (λi=>i<=rows.length) (λi=>rows.length-i) 0 rfl rfl rfl rfl (λ_ _=>⟨rfl,rfl⟩) rfl (by omega) ?_
  repeat' first|refine st ?_|((with_reducible apply A4);conv=>whnf)|refine⟨λ_=>?_,λ_=>?_⟩|fail
  intro i i1
  have hw1:(B7 (rows.take i)).length=i:=by rw[U8,M4];omega
  have hwm:=X2 (rows.take i)
  have hbd:((B7 (rows.take i)).length+1)*24<=140737488355328:=by omega
  cases hx:rows[i]? with
  |some r=>
   have hlt:=(B4.1 hx).1
   have hilt:(i:Int)<rs.length:=by omega
   have hg:rs[((i:Nat):Int).toNat]?=some [r.d]:=g2 i r hx
   have hK:=hk4 r (C3 hx)
   have ht:B7 (rows.take (i+1))=B7 (rows.take i)++[[r.d]]:=by rw[L8,hx];simp[B7]
   obtain⟨A,hA⟩:∃z,z=B7 (rows.take i):=⟨_,rfl⟩
   rw[<- hA] at hw1 hwm hbd ht ⊢
   obtain⟨rd,hrd⟩:∃d,d=r.d:=⟨_,rfl⟩
   rw[<- hrd] at hg hK ht
   clear g1 g2 hx hA hf hrd hS hcp hk1 hk2 hk3 hk4 hrs2
   repeat' first|refine st ?_|((with_reducible apply A4);conv=>whnf)|refine⟨λ_=>?_,λ_=>?_⟩|fail
   exact⟨i+1,rfl,rfl,by rw[ht];simp,by omega,by omega⟩
  |none=>
   have hge:=E9.1 hx
   have hilt:(rs.length:Int)<=i:=by omega
   rw[H4 hge,<- hrs2] at hw1 hwm hbd ⊢
   obtain⟨ww,hww⟩:∃z,z=rs:=⟨_,rfl⟩
   rw[<- hww] at hw1 hwm hbd ⊢
   clear hx hk1 hk2 hk3 hk4 hS hcp g2 hww hrs2
   repeat' first|refine st ?_|((with_reducible apply A4);conv=>whnf)|refine⟨λ_=>?_,λ_=>?_⟩|fail
   refine A1U 2 14 15 rfl rfl rfl ?_
   refine K6 A6 B0N B0K (λ(i:Nat)=>[.d (eI i)]) (λi=>[.cells [.d (eI op),.d (eI n),.d dk,.d dr,.d (eI xo),.d (eI xn),.d (eI xv.k),.d (eI xv.n),.d (.str xv.s),.d (.str xm),.d xd,.d dx,.d dy,.d da,.d di],.cells [.d (eI 0),.d (eI 0),.d .nil,.d .nil,.d (eI 0),.d (eI 0),.d (eI 0),.d (eI 0),.d (.str []),.d (.str []),.d .nil,.d .nil,.d .nil,.d .nil,.d .nil],.cells [.d (eI op),.d (eI n),.d dk,.arr 7 ww.length,.d (eI yo),.d (eI yn),.d (eI yv.k),.d (eI yv.n),.d (.str yv.s),.d (.str ym),.d yd,.d dx2,.d dy,.d da,.arr 8 (pL ((ins.take i).map Φ)).length],.hole,.hole,.hole,.hole,.arr ww 1 0 ww.isEmpty,.arr (pL ((ins.take i).map Φ)) 15 0 (pL ((ins.take i).map Φ)).isEmpty]) (λi=>i<=ins.length) (λi=>ins.length-i) 0 rfl rfl rfl rfl (λ_ _=>⟨rfl,rfl⟩) rfl (by omega) ?_
   repeat' first|refine st ?_|((with_reducible apply A4);conv=>whnf)|refine⟨λ_=>?_,λ_=>?_⟩|fail
   intro i i1
   have hv1:(pL ((ins.take i).map Φ)).length=i:=by rw[b5,D8,M4];omega
   have hvm:=e9 ((ins.take i).map Φ)
   have hbd2:((pL ((ins.take i).map Φ)).length+1)*248<=140737488355328:=by omega
   cases hx:ins[i]? with
   |some p=>
    have hlt:=(B4.1 hx).1
    have hilt:(i:Int)<es.length:=by omega
    have hg:=g1 i p hx
    have hL:=hf p (C3 hx)
    have ht:pL ((ins.take (i+1)).map Φ)=pL ((ins.take i).map Φ)++[(Φ p).ds]:=by rw[L8,hx];simp[pL]
    obtain⟨A,hA⟩:∃z,z=pL ((ins.take i).map Φ):=⟨_,rfl⟩
    rw[<- hA] at hv1 hvm hbd2 ht ⊢
    obtain⟨op',n',dk',dr',xo',xn',xv',xm',xd',dx',dy',da',di',c1,c2⟩:=Pl.cut p
    obtain⟨op1,n1,dk1,dr1,xo1,xn1,xv1,xm1,xd1,dx1,dy1,da1,di1,c3,c4⟩:=Pl.cut (Φ p)
    have hg:es[((i:Nat):Int).toNat]?=some (K1 op' n' dk' dr' xo' xn' xv' xm' xd' dx' dy' da' di'):=by rw[<- c1];exact hg
    rw[c2,c4] at hL
    rw[c3] at ht
    clear g1 hx hA hf c1 c2 c3 c4
    repeat' first|refine st ?_|((with_reducible apply A4);conv=>whnf)|refine⟨λ_=>?_,λ_=>?_⟩|fail
    exact⟨i+1,rfl,rfl,by rw[ht];simp,by omega,by omega⟩
   |none=>
    have hge:=E9.1 hx
    have hilt:(es.length:Int)<=i:=by omega
    rw[H4 hge] at hv1 hvm hbd2 ⊢
    obtain⟨A,hA⟩:∃z,z=pL (ins.map Φ):=⟨_,rfl⟩
    rw[<- hA] at hv1 hvm hbd2 ⊢
    clear g1 hx hA hf
    repeat' first|refine st ?_|((with_reducible apply A4);conv=>whnf)|refine⟨λ_=>?_,λ_=>?_⟩|fail
    all_goals (cases ww<;>cases A<;>rfl)
 rw[e1,e2,e3,e4,e5,e6,e7,hxd,hyd] at hgoal
 exact hgoal
end Go.Proofs
end
section
namespace Go.Proofs
open Go.Bi
def A15(n:Int)(v:Vl)(nm:List UInt8)(k:Nat):Bool:=decide (2<=k/\n=0/\nm=[]/\v=E6)
abbrev stg(op:Int):Vl:=Y0 (decide (op=6))
abbrev wek(op:Int):Vl:=Y0 (decide (op=5))
abbrev Ex.op:Ex->Int
 |.mk op _ _ _ _ _=>op
abbrev Ex.vl:Ex->Vl
 |.mk _ _ v _ _ _=>v
def w8(op:Int):List Ex->List Ex
 |[]=>[]
 |x::r=>if x.op≠1\/x.vl≠wek op then x::w8 op r else w8 op r
def cnS(op:Int)(l:List Ex):Bool:=l.any λx=>decide (x.op=1/\x.vl=stg op)
def cnX(op n:Int)(v:Vl)(nm:List UInt8)(args:List Ex):Ex:=
 if cnS op args then A2M (stg op) else if 2<=(w8 op args).length then .mk op n v nm true (w8 op args) else .mk op n v nm true args
end Go.Proofs
end
section
namespace Go.Proofs
open Go.Bi
def smF(op n:Int)(v:Vl)(nm:List UInt8)(l:List Ex):Ex:=
 if (op=5\/op=6)/\A15 n v nm l.length=true then cnX op n v nm l else .mk op n v nm true l
mutual
/-- A predicate, simplified. -/
def Q8:Ex->Ex
 |.mk op n v nm nl args=>if L5 (.mk op n v nm nl args)=[] then A2M (ev [] (.mk op n v nm nl args)) else smF op n v nm (A7B args)
def A7B:List Ex->List Ex
 |[]=>[]
 |e::r=>Q8 e::A7B r
end
theorem C3N:∀l,A7B l=l.map Q8
 |[]=>by simp[A7B]
 |e::r=>by simp[A7B,C3N r]
theorem A9M(op n:Int)(v:Vl)(nm:List UInt8)(nl:Bool)(args:List Ex):Q8 (.mk op n v nm nl args)=if L5 (.mk op n v nm nl args)=[] then A2M (ev [] (.mk op n v nm nl args)) else smF op n v nm (args.map Q8):=by rw[Q8,C3N]
end Go.Proofs
end
section
namespace Go.Proofs
open Go.Bi
theorem B1X{op n n':Int}{v:Vl}{l row row':List Vl}(h1:op=2->r8 row n=r8 row' n')(h2:op≠2->n=n'):X4 op n v l row=X4 op n' v l row':=by
 by_cases h0:op=2
 ·subst h0
  exact h1 rfl
 ·rw[h2 h0]
  unfold X4
  repeat' split
  all_goals first|rfl|(exfalso;omega)
theorem C1n{row row':List Vl}:∀e:Ex,(∀c∈L5 e,r8 row c=r8 row' c)->ev row e=ev row' e:=by
 refine Ex.ind λop n v nm nl args ih h=>?_
 rw[A3N] at h
 rw[x8,x8]
 have ha:args.map (ev row)=args.map (ev row'):=P5 λa ha=>ih a ha λc hc=>h c (A8a _ (A03.2 ⟨a,ha,hc⟩))
 rw[ha,B1X (n':=n) (row':=row') (λe=>h n (by rw[if_pos e];simp)) (λ_=>rfl)]
theorem A4c{ks:List Int}{op n:Int}{v:Vl}{nm:List UInt8}{nl:Bool}{args:List Ex}(h:(F6 ks (.mk op n v nm nl args)).2=0) :
  K3 op n v nm args.length=true/\(op≠2->(∀a∈args,(F6 ks a).2=0)/\(N8 op v (args.map λa=>(F6 ks a).1)).2=true/\(F6 ks (.mk op n v nm nl args)).1=(N8 op v (args.map λa=>(F6 ks a).1)).1)/\(op=2->0<=n/\n<ks.length/\args=[]):=by
 rw[w6] at h ⊢
 have h0:=h
 unfold W7 at h
 split at h
 ·cases h
 split at h
 ·cases h
 rename_i h1 h2
 have hf:K3 op n v nm args.length=true:=by simpa using h2
 refine⟨hf,λh3=>?_,λh3=>?_⟩
 ·rw[A2L hf h3] at h0 ⊢
  by_cases h4:fe (args.map (F6 ks))=0
  ·rw[if_pos h4] at h0 ⊢
   rw[V0] at h0 ⊢
   have e:(Prod.fst ∘ F6 ks)=λa=>(F6 ks a).1:=rfl
   rw[e] at h0 ⊢
   cases h5:(N8 op v (args.map λa=>(F6 ks a).1)).2 with
   |false=>rw[h5] at h0;cases h0
   |true=>exact⟨λa ha=>B1Y h4 _ (D7.2 ⟨a,ha,rfl⟩),rfl,by rw[if_pos rfl]⟩
  ·rw[if_neg h4] at h0;exact absurd h0 h4
 ·subst h3
  rw[if_pos rfl] at h
  split at h
  ·rename_i h4
   refine⟨h4.1,h4.2,?_⟩
   have h5:=A4j hf
   have h6:decide ((args.length:Int)=0)=true:=h5
   have h7:=of_decide_eq_true h6
   exact A0J.1 (by omega)
  ·cases h
def Le0(a b:Int):Prop:=a=b\/a=0
inductive v6:List Int->List Int->Prop
 |nil:v6 [] []
 |cons {a b:Int} {l m:List Int} (h:Le0 a b) (t:v6 l m):v6 (a::l) (b::m)
theorem v6.allK{l m:List Int}{c:Int}(h:v6 l m)(hm:allK m c=true):allK l c=true:=by
 induction h with
 |nil=>rfl
 |@cons a b l m h t ih=>
  simp only[Go.Proofs.allK,A1l,K7,decide_eq_true_eq] at hm ih ⊢
  refine⟨?_,ih hm.2⟩
  rcases h with rfl|rfl
  ·exact hm.1
  ·exact .inr rfl
theorem A5N:∀{l m:List Int},v6 l m->∀{j k:Int},Le0 j k->(Z1 k m).2=true->(Z1 j l).2=true/\Le0 (Z1 j l).1 (Z1 k m).1
 |_,_,.nil,j,k,hjk,_=>⟨rfl,hjk⟩
 |_,_,.cons (a:=a) (b:=b) (l:=l) (m:=m) h t,j,k,hjk,hm=>by
  unfold Z1 at hm ⊢
  by_cases hb:b=0
  ·have ha:a=0:=by rcases h with h|h<;>omega
   rw[if_pos hb] at hm ⊢
   rw[if_pos ha]
   exact A5N t hjk hm
  ·rw[if_neg hb] at hm ⊢
   by_cases hk:k≠0/\k≠b
   ·rw[if_pos hk] at hm;cases hm
   ·rw[if_neg hk] at hm ⊢
    by_cases ha:a=0
    ·rw[if_pos ha]
     refine A5N t ?_ hm
     rcases hjk with h1|h1
     ·by_cases hk0:k=0
      ·exact .inr (by omega)
      ·exact .inl (by omega)
     ·exact .inr h1
    ·rw[if_neg ha]
     have hab:a=b:=by rcases h with h|h;exact h;exact absurd h ha
     have hj:¬(j≠0/\j≠a):=by
      rintro⟨h1,h2⟩
      rcases hjk with h3|h3
      ·exact hk ⟨by omega,by omega⟩
      ·exact h1 h3
     rw[if_neg hj]
     exact A5N t (.inl hab) hm
theorem v6.drop{l m:List Int}(h:v6 l m):v6 (l.drop 1) (m.drop 1):=by
 cases h with
 |nil=>exact .nil
 |cons _ t=>exact t
theorem v6.take{l m:List Int}(h:v6 l m):v6 (l.take 1) (m.take 1):=by
 cases h with
 |nil=>exact .nil
 |cons h _=>exact .cons h .nil
theorem D95{op:Int}{v:Vl}{l m:List Int}(h:v6 l m)(hm:(N8 op v m).2=true):(N8 op v l).2=true/\Le0 (N8 op v l).1 (N8 op v m).1:=by
 unfold N8 at hm ⊢
 by_cases c1:op=1
 ·rw[if_pos c1] at hm ⊢;rw[if_pos c1];exact⟨rfl,.inl rfl⟩
 rw[if_neg c1] at hm ⊢;rw[if_neg c1]
 by_cases c2:op=4\/op=5\/op=6
 ·rw[if_pos c2] at hm ⊢;rw[if_pos c2];exact⟨h.allK hm,.inl rfl⟩
 rw[if_neg c2] at hm ⊢;rw[if_neg c2]
 by_cases c3:op=7\/op=8\/op=9\/op=10\/op=11\/op=12
 ·rw[if_pos c3] at hm ⊢;rw[if_pos c3];exact⟨(A5N h (.inl rfl) hm).1,.inl rfl⟩
 rw[if_neg c3] at hm ⊢;rw[if_neg c3]
 by_cases c4:op=19
 ·rw[if_pos c4] at hm ⊢;rw[if_pos c4];exact⟨h.allK hm,.inl rfl⟩
 rw[if_neg c4] at hm ⊢;rw[if_neg c4]
 by_cases c5:op=20
 ·rw[if_pos c5] at hm ⊢;rw[if_pos c5];exact⟨h.allK hm,.inl rfl⟩
 rw[if_neg c5] at hm ⊢;rw[if_neg c5]
 by_cases c6:op=21
 ·rw[if_pos c6] at hm ⊢;rw[if_pos c6];exact⟨rfl,.inl rfl⟩
 rw[if_neg c6] at hm ⊢;rw[if_neg c6]
 by_cases c7:op=22
 ·rw[if_pos c7] at hm ⊢;rw[if_pos c7]
  simp only[K7] at hm ⊢
  have h1:=A5N h.drop (.inl rfl) hm.1
  exact⟨⟨h1.1,h.take.allK hm.2⟩,h1.2⟩
 rw[if_neg c7] at hm ⊢;rw[if_neg c7]
 by_cases c8:op=23
 ·rw[if_pos c8] at hm ⊢;rw[if_pos c8];exact A5N h (.inl rfl) hm
 rw[if_neg c8] at hm ⊢;rw[if_neg c8]
 by_cases c9:op=24
 ·rw[if_pos c9] at hm ⊢;rw[if_pos c9];exact⟨h.allK hm,.inl rfl⟩
 rw[if_neg c9] at hm ⊢;rw[if_neg c9];exact⟨h.allK hm,.inl rfl⟩
def f5(t:Int):Prop:=t=0\/t=1\/t=2
abbrev un(op:Int):Int:=if op=5 then 2 else 0
abbrev st'(op:Int):Int:=if op=5 then 0 else 2
theorem B01(v:Vl):f5 (Q9 v):=by
 unfold Q9 f5
 repeat' split
 all_goals omega
theorem D7t{op:Int}(hop:op=5\/op=6){t:Int}(ht:f5 t){v:Vl}(hv:Q9 v=un op):V4 op t v=t:=by
 unfold V4
 rw[hv]
 rcases hop with rfl|rfl<;>rcases ht with rfl|rfl|rfl<;>decide
theorem D7u{op:Int}(hop:op=5\/op=6)(v:Vl):V4 op (un op) v=Q9 v:=by
 unfold V4
 have:=B01 v
 unfold f5 at this
 rcases hop with rfl|rfl<;>rcases this with h|h|h<;>rw[h]<;>decide
theorem D7r{op:Int}(hop:op=5\/op=6){t:Int}(ht:f5 t){v:Vl}(hv:Q9 v=st' op):V4 op t v=st' op:=by
 unfold V4
 rw[hv]
 rcases hop with rfl|rfl<;>rcases ht with rfl|rfl|rfl<;>decide
theorem D7s{op:Int}(hop:op=5\/op=6)(v:Vl):V4 op (st' op) v=st' op:=by
 unfold V4
 have:=B01 v
 unfold f5 at this
 rcases hop with rfl|rfl<;>rcases this with h|h|h<;>rw[h]<;>decide
theorem A9e{op:Int}(hop:op=5\/op=6){t:Int}(ht:f5 t)(v:Vl):f5 (V4 op t v):=by
 unfold V4
 have:=B01 v
 unfold f5 at this ⊢
 rcases hop with rfl|rfl<;>rcases ht with rfl|rfl|rfl<;>rcases this with h|h|h<;>rw[h]<;>decide
theorem C1N{op:Int}(hop:op=5\/op=6):∀(l:List Vl){t:Int},f5 t->f5 (l.foldl (V4 op) t)
 |[],_,h=>h
 |v::l,_,h=>C1N hop l (A9e hop h v)
theorem C1O{op:Int}(hop:op=5\/op=6):∀l:List Vl,l.foldl (V4 op) (st' op)=st' op
 |[]=>rfl
 |v::l=>by rw[s6,D7s hop,C1O hop l]
theorem C1P{op:Int}(hop:op=5\/op=6):∀(l:List Vl){t:Int},f5 t->(∃v∈l,Q9 v=st' op)->l.foldl (V4 op) t=st' op
 |[],_,_,⟨v,hv,_⟩=>by cases hv
 |a::l,t,ht,⟨v,hv,h⟩=>by
  rw[s6]
  rcases H2.1 hv with rfl|hv
  ·rw[D7r hop ht h,C1O hop]
  ·exact C1P hop l (A9e hop ht a) ⟨v,hv,h⟩
def wfC(x:Ex):Prop:=x.op=1->x=A2M x.vl/\O5 x.vl=true
theorem A8W(r:B5){w:Vl}(h:O5 w=true):ev r (A2M w)=w:=by
 rw[x8]
 have:K3 1 0 w [] ([]:List Ex).length=true:=by
  rw[A92 0 w _ (by decide),h];rfl
 rw[this]
 rfl
theorem B02(op:Int)(hop:op=5\/op=6):Q9 (wek op)=un op/\Q9 (stg op)=st' op/\r9 (st' op)=stg op/\O5 (wek op)=true/\O5 (stg op)=true:=by
 rcases hop with rfl|rfl<;>decide
theorem C1M{op:Int}(hop:op=5\/op=6)(r:B5):∀(l:List Ex){t:Int},f5 t->(∀x∈l,wfC x)->((w8 op l).map (ev r)).foldl (V4 op) t=(l.map (ev r)).foldl (V4 op) t
 |[],_,_,_=>rfl
 |x::l,t,ht,hw=>by
  have ih:=fun {t} (h:f5 t)=>C1M hop r l h λy hy=>hw y (by simp[hy])
  rw[w8]
  split
  ·rw[H5,H5,s6,s6]
   exact ih (A9e hop ht _)
  ·rename_i h
   have h1:x.op=1:=by
    by_cases h1:x.op=1
    ·exact h1
    ·exact absurd (.inl h1) h
   have h2:x.vl=wek op:=by
    by_cases h2:x.vl=wek op
    ·exact h2
    ·exact absurd (.inr h2) h
   obtain⟨h3,h4⟩:=hw x (by simp) h1
   have h5:ev r x=wek op:=by rw[h3,A8W r h4,h2]
   rw[H5,s6,h5,D7t hop ht (B02 op hop).1]
   exact ih ht
theorem A8V(r:B5){op n:Int}{v:Vl}{nm:List UInt8}(nl:Bool){l:List Ex}(hop:op=5\/op=6)(h:A15 n v nm l.length=true):ev r (.mk op n v nm nl l)=r9 ((l.map (ev r)).foldl (V4 op) (un op)):=by
 unfold A15 at h
 obtain⟨h1,rfl,rfl,rfl⟩:=of_decide_eq_true h
 have hf:K3 op 0 E6 [] l.length=true:=by
  have hc:(T1 op l.length).1=true:=by
   rcases hop with rfl|rfl
   ·show decide (2<=(l.length:Int))=true
    exact decide_eq_true (by omega)
   ·show decide (2<=(l.length:Int))=true
    exact decide_eq_true (by omega)
  rw[A6T op 0 E6 l.length hc (by omega) (by omega) (by omega)]
  decide
 rw[x8,hf,if_pos rfl]
 match l,h1 with
 |a::m,_=>
  rw[H5,s6,D7u hop]
  unfold X4
  rw[if_neg (by omega),if_neg (by omega),if_neg (by omega),if_neg (by omega),if_pos hop]
  rfl
theorem D5j{op:Int}{l:List Ex}(h:cnS op l=true):∃x∈l,x.op=1/\x.vl=stg op:=by
 obtain⟨x,hx,h⟩:=List.any_eq_true.1 h
 exact⟨x,hx,of_decide_eq_true h⟩
theorem A6C{op:Int}:∀{l:List Ex},∀x∈w8 op l,x∈l
 |[],x,h=>by cases h
 |y::l,x,h=>by
  rw[w8] at h
  split at h
  ·rcases H2.1 h with rfl|h
   ·simp
   ·simp[A6C x h]
  ·simp[A6C x h]
theorem D6d(r:B5){op n:Int}{v:Vl}{nm:List UInt8}{l:List Ex}(hop:op=5\/op=6)(h:A15 n v nm l.length=true)(hw:∀x∈l,wfC x):ev r (cnX op n v nm l)=ev r (.mk op n v nm true l):=by
 have hun:f5 (un op):=by rcases hop with rfl|rfl<;>unfold f5<;>decide
 obtain⟨t1,t2,t3,t4,t5⟩:=B02 op hop
 unfold cnX
 split
 ·rename_i hs
  obtain⟨x,hx,h1,h2⟩:=D5j hs
  obtain⟨h3,h4⟩:=hw x hx h1
  have h5:ev r x=stg op:=by rw[h3,A8W r h4,h2]
  rw[A8W r t5,A8V r true hop h,C1P hop _ hun ⟨ev r x,D7.2 ⟨x,hx,rfl⟩,by rw[h5];exact t2⟩,t3]
 ·split
  ·rename_i h2
   have h3:A15 n v nm (w8 op l).length=true:=by
    unfold A15 at h ⊢
    obtain⟨_,q⟩:=of_decide_eq_true h
    exact decide_eq_true ⟨h2,q⟩
   rw[A8V r true hop h3,A8V r true hop h,C1M hop r l hun hw]
  ·rfl
theorem D9z{ks:List Int}{e:Ex}(h:(F6 ks e).2=0):wfC (Q8 e):=by
 obtain⟨op,n,v,nm,nl,args⟩:=e
 obtain⟨hf,h1,h2⟩:=A4c h
 intro h3
 rw[A9M] at h3 ⊢
 by_cases h0:L5 (.mk op n v nm nl args)=[]
 ·rw[if_pos h0]
  exact⟨rfl,A8X [] _⟩
 ·rw[if_neg h0] at h3 ⊢
  unfold smF at h3 ⊢
  by_cases h5:(op=5\/op=6)/\A15 n v nm (args.map Q8).length=true
  ·rw[if_pos h5] at h3 ⊢
   unfold cnX at h3 ⊢
   split
   ·exact⟨rfl,(B02 op h5.1).2.2.2.2⟩
   ·rename_i h6
    rw[if_neg h6] at h3
    split at h3
    ·have h3:op=1:=h3
     omega
    ·have h3:op=1:=h3
     omega
  ·rw[if_neg h5] at h3
   have h3:op=1:=h3
   subst h3
   have h6:=of_decide_eq_true (show decide ((args.length:Int)=0)=true from A4j hf)
   have h7:args=[]:=A0J.1 (by omega)
   subst h7
   exact absurd rfl h0
theorem A2R{l:List Nat}{B:Nat}:mx l<=B↔∀x∈l,x<=B:=by
 constructor
 ·intro h x hx
  have key:∀(l:List Nat) (a:Nat),l.foldl max a<=B->a<=B/\∀x∈l,x<=B:=by
   intro l
   induction l with
   |nil=>intro a h;exact⟨h,by simp⟩
   |cons y l ih=>
    intro a h
    obtain⟨h1,h2⟩:=ih _ h
    refine⟨by omega,λx hx=>?_⟩
    rcases H2.1 hx with rfl|hx
    ·omega
    ·exact h2 x hx
  exact(key l 0 h).2 x hx
 ·exact C2B
theorem C8W{l:List Ex}{f g:Ex->Int}(h:∀x∈l,Le0 (f x) (g x)):v6 (l.map f) (l.map g):=by
 induction l with
 |nil=>exact .nil
 |cons a l ih=>exact .cons (h a (by simp)) (ih λx hx=>h x (by simp[hx]))
theorem D6j{l:List (Int×Int)}(h:∀x∈l,x.2=0):fe l=0:=by
 induction l with
 |nil=>rfl
 |cons a l ih=>rw[fe,if_pos (h a (by simp))];exact ih λx hx=>h x (by simp[hx])
theorem A8H{ks:List Int}{op n:Int}{v:Vl}{nm:List UInt8}{nl:Bool}{l:List Ex}(hf:K3 op n v nm l.length=true)(h2:op≠2)(ha:∀a∈l,(F6 ks a).2=0)(hr:(N8 op v (l.map λa=>(F6 ks a).1)).2=true):F6 ks (.mk op n v nm nl l)=((N8 op v (l.map λa=>(F6 ks a).1)).1,0):=by
 rw[w6,A2L hf h2,if_pos (D6j λx hx=>by obtain⟨a,hm,rfl⟩:=D7.1 hx;exact ha a hm),V0]
 show(if (N8 op v (l.map λa=>(F6 ks a).1)).2=true then _ else _)=_
 rw[if_pos hr];rfl
theorem A8G{ks:List Int}{w:Vl}(h:O5 w=true):F6 ks (A2M w)=(w.k,0):=by
 have:K3 1 0 w [] ([]:List Ex).length=true:=by
  rw[A92 0 w _ (by decide),h];rfl
 rw[A8H this (by decide) (by simp) rfl];rfl
theorem D7I(ks:List Int):Q1 (List.replicate ks.length E6) ks=true:=by
 unfold Q1
 rw[K7]
 refine⟨decide_eq_true (by simp),L7.2 λp hp=>?_⟩
 have h1:=(A8b.1 (List.of_mem_zip hp).1).2
 unfold T8
 rw[h1];rfl
theorem D9y(ks:List Int):∀e:Ex,(F6 ks e).2=0->(∀r,ev r (Q8 e)=ev r e)/\(F6 ks (Q8 e)).2=0/\Le0 (F6 ks (Q8 e)).1 (F6 ks e).1/\G5 (Q8 e)<=G5 e:=by
 refine Ex.ind λop n v nm nl args ih h=>?_
 obtain⟨hf,h1,h2⟩:=A4c h
 by_cases h0:L5 (.mk op n v nm nl args)=[]
 ·have e1:Q8 (.mk op n v nm nl args)=A2M (ev [] (.mk op n v nm nl args)):=by rw[A9M,if_pos h0]
  have hv:=A8X [] (.mk op n v nm nl args)
  have hcol:∀r,ev r (.mk op n v nm nl args)=ev [] (.mk op n v nm nl args):=λr=>C1n _ λc hc=>by rw[h0] at hc;cases hc
  rw[e1]
  refine⟨λr=>by rw[A8W r hv,hcol r],by rw[A8G hv],?_,?_⟩
  ·rw[A8G hv]
   have:=D6e (List.replicate ks.length E6) ks (D7I ks) _ h
   rw[hcol] at this
   exact this
  ·rw[U4,U4]
   show 1+0<=_
   omega
 ·have hop2:op=2->Q8 (.mk op n v nm nl args)=.mk op n v nm true args:=λh3=>by
   obtain⟨_,_,h6⟩:=h2 h3
   rw[A9M,if_neg h0]
   unfold smF
   rw[if_neg (by rintro⟨h,_⟩;omega),h6];rfl
  by_cases h3:op=2
  ·rw[hop2 h3]
   refine⟨λr=>by rw[x8,x8],by rw[w6] at h ⊢;exact h,by rw[w6,w6];exact .inl rfl,by rw[U4,U4];exact D3 _⟩
  ·obtain⟨ha,hr,hk⟩:=h1 h3
   have ih':=λa hm=>ih a hm (ha a hm)
   have hle:v6 ((args.map Q8).map λa=>(F6 ks a).1) (args.map λa=>(F6 ks a).1):=by
    rw[V0]
    exact C8W λa hm=>(ih' a hm).2.2.1
   obtain⟨r1,r2⟩:=D95 (v:=v) hle hr
   have hf':K3 op n v nm (args.map Q8).length=true:=by rw[D8];exact hf
   have hca:∀a∈args.map Q8,(F6 ks a).2=0:=λa hm=>by
    obtain⟨x,hx,rfl⟩:=D7.1 hm
    exact(ih' x hx).2.1
   have hnode:=A8H (nl:=true) hf' h3 hca r1
   have hev:∀r,ev r (.mk op n v nm true (args.map Q8))=ev r (.mk op n v nm nl args):=λr=>by
    rw[x8,x8,D8,V0,show args.map (ev r ∘ Q8)=args.map (ev r) from P5 λa hm=>(ih' a hm).1 r]
   have hdp:G5 (.mk op n v nm true (args.map Q8))<=G5 (.mk op n v nm nl args):=by
    rw[U4,U4,V0]
    have:mx (args.map (G5 ∘ Q8))<=mx (args.map G5):=A2R.2 λx hx=>by
     obtain⟨a,hm,rfl⟩:=D7.1 hx
     exact K4 (ih' a hm).2.2.2 (A2R.1 (D3 _) _ (D7.2 ⟨a,hm,rfl⟩))
    omega
   have hwf:∀x∈args.map Q8,wfC x:=λx hx=>by
    obtain⟨a,hm,rfl⟩:=D7.1 hx
    exact D9z (ha a hm)
   rw[A9M,if_neg h0]
   unfold smF
   by_cases h5:(op=5\/op=6)/\A15 n v nm (args.map Q8).length=true
   ·rw[if_pos h5]
    refine⟨λr=>(D6d r h5.1 h5.2 hwf).trans (hev r),?_⟩
    have hk3:(F6 ks (.mk op n v nm nl args)).1=3:=by
     rw[hk];unfold N8
     rw[if_neg (by omega),if_pos (by omega)]
    have hal:allK ((args.map Q8).map λa=>(F6 ks a).1) 3=true:=by
     unfold N8 at r1
     rw[if_neg (by omega),if_pos (by omega)] at r1
     exact r1
    unfold cnX
    split
    ·rw[A8G (B02 op h5.1).2.2.2.2,hk3]
     refine⟨rfl,.inl (by rcases h5.1 with h|h<;>subst h<;>rfl),?_⟩
     rw[U4,U4]
     show 1+0<=_
     omega
    ·split
     ·rename_i hs h6
      have hf2:K3 op n v nm (w8 op (args.map Q8)).length=true:=by
       have hp:=h5.2
       unfold A15 at hp
       obtain⟨_,rfl,rfl,rfl⟩:=of_decide_eq_true hp
       have hc:(T1 op (w8 op (args.map Q8)).length).1=true:=by
        rcases h5.1 with rfl|rfl
        ·show decide (2<=((w8 5 (args.map Q8)).length:Int))=true
         exact decide_eq_true (by omega)
        ·show decide (2<=((w8 6 (args.map Q8)).length:Int))=true
         exact decide_eq_true (by omega)
       rw[A6T op 0 E6 _ hc (by omega) (by omega) (by omega)]
       decide
      have hr2:N8 op v ((w8 op (args.map Q8)).map λa=>(F6 ks a).1)=(3,true):=by
       unfold N8
       rw[if_neg (by omega),if_pos (by omega)]
       congr 1
       unfold allK at hal ⊢
       rw[L7] at hal ⊢
       intro x hx
       obtain⟨a,hm,rfl⟩:=D7.1 hx
       exact hal _ (D7.2 ⟨a,A6C a hm,rfl⟩)
      rw[A8H (nl:=true) hf2 h3 (λa hm=>hca a (A6C a hm)) (by rw[hr2]),hr2,hk3]
      refine⟨rfl,.inl rfl,?_⟩
      refine K4 ?_ hdp
      rw[U4,U4]
      have:mx ((w8 op (args.map Q8)).map G5)<=mx ((args.map Q8).map G5):=A2R.2 λx hx=>by
       obtain⟨a,hm,rfl⟩:=D7.1 hx
       exact A2R.1 (D3 _) _ (D7.2 ⟨a,A6C a hm,rfl⟩)
      omega
     ·rw[hnode]
      exact⟨rfl,by rw[hk];exact r2,hdp⟩
   ·rw[if_neg h5]
    rw[hnode]
    exact⟨hev,rfl,by rw[hk];exact r2,hdp⟩
end Go.Proofs
end
