/- Texts of this claim, joined. No condition. -/
import Derived.Test.YtfnaleemmeejcaaGreatQ8
set_option linter.unusedSimpArgs false
set_option linter.unusedVariables false
set_option maxRecDepth 10000
set_option maxHeartbeats 4000000
section
namespace Go.Proofs
open Go.Bi
abbrev V4(p:Pl)(kd:D):AV:=.agg (p.ds.map .d++[.d kd])
abbrev F4(din:D):List AO:=[.cells [.d din]]
theorem A2T(K:List Kw)(hK:K.length<=4294967296)(hKb:∀k∈K,k.ks.length<=4294967296)(din:D)(hin:B0 din (E6 K))(p:Pl)(hb:p.bk<=1073741824) :
  C0 Tryz.prog A3E [.ptr 0 0,p.av] (F4 din) (λr os=>r=V4 p (B9 K p).1.d/\os=F4 din):=by
 have hC:=A3y K hK hKb din hin p hb
 obtain⟨op',n',dk',dr',xo',xn',xv',xm',xd',dx',dy',da',di',c1,c2⟩:=Pl.cut p
 unfold V4
 rw[c2] at hC ⊢
 rw[c1]
 obtain⟨kd,hkd⟩:∃d,d=(B9 K p).1.d:=⟨_,rfl⟩
 obtain⟨ke,hke⟩:∃d,d=(B9 K p).2:=⟨_,rfl⟩
 rw[<- hkd,<- hke] at hC
 rw[<- hkd]
 clear hkd hke c1 c2
 have r0:xv'.k=xv'.k:=rfl
 have r1:xv'.s=xv'.s:=rfl
 have r2:xm'=xm':=rfl
 refine C9Z.goX A6 rfl ?_
 repeat' first|refine st ?_|((with_reducible apply A4);conv=>whnf)|refine⟨λ_=>?_,λ_=>?_⟩|fail
 all_goals exact⟨rfl,rfl⟩
def P5(p:Pl)(l:List Ex):Pl:=if l.length=0 then p else R9 3 0 (K3 false (l.map (A9 0))) [p]
theorem A8c(p:Pl)(l:List Ex)(hb:∀x∈l,x.bk<=1073741824)(hl:l.length<=1073741824)(d:D)(hd:B0 d (xL l)):Pure Tryz.prog C0n [p.av,.d d] (P5 p l).av:=by
 have hA:=A8e l hb hl d hd
 obtain⟨q,hq⟩:∃q,q=P5 p l:=⟨_,rfl⟩
 rw[<- hq]
 unfold P5 at hq
 have l1:=N1 l
 obtain⟨es,hes⟩:∃z,z=xL l:=⟨_,rfl⟩
 rw[<- hes] at hd l1
 clear hes
 have hpc:=Pl.cut p
 by_cases h:l.length=0
 ·rw[if_pos h] at hq
  subst hq
  have h0:(es.length:Int)=0:=by omega
  obtain⟨op',n',dk',dr',xo',xn',xv',xm',xd',dx',dy',da',di',c1,c2⟩:=hpc
  rw[c2]
  clear c1 c2 hA
  refine B5i.go A6 rfl ?_
  repeat' first|refine st ?_|((with_reducible apply A4);conv=>whnf)|refine⟨λ_=>?_,λ_=>?_⟩|fail
  all_goals rfl
 ·rw[if_neg h] at hq
  have h0:¬(es.length:Int)=0:=by omega
  subst hq
  obtain⟨e,he⟩:∃e,e=K3 false (l.map (A9 0)):=⟨_,rfl⟩
  rw[<- he] at hA ⊢
  clear he
  obtain⟨xo,xn,xv,xm,xl,xa⟩:=e
  rw[Ex.av_mk] at hA
  rw[A0w]
  have e1:ng true (pL [p])=.sl [p.ds]:=rfl
  rw[e1]
  obtain⟨op',n',dk',dr',xo',xn',xv',xm',xd',dx',dy',da',di',c1,c2⟩:=hpc
  rw[c1,c2]
  obtain⟨xd,hxd⟩:∃d,d=ng xl (xL xa):=⟨_,rfl⟩
  rw[<- hxd] at hA ⊢
  clear c1 c2 hxd e1
  refine B5i.go A6 rfl ?_
  repeat' first|refine st ?_|((with_reducible apply A4);conv=>whnf)|refine⟨λ_=>?_,λ_=>?_⟩|fail
  all_goals rfl
theorem n9{g:FuncId}{din:D}{r:AV}{ars:List AV}(h:C0 Tryz.prog g ars (F4 din) (λr' os'=>r'=r/\os'=F4 din))(ha:∀a∈ars,a.bnd2 1)(hr:∀f,mA f r=r)(rest:List AO) :
  C0 Tryz.prog g ars (F4 din++rest) (λr' os'=>r'=r/\os'=F4 din++rest):=
 C0.pre h rest ha (by
  intro o ho
  simp only[I2,V6,or_false] at ho
  subst ho;simp[AO.bnd,AV.bnd1]) (by
  rintro r' bs' ⟨rfl,rfl⟩
  refine⟨rfl,?_,hr,rfl,rfl⟩
  intro o ho
  simp only[I2,V6,or_false] at ho
  subst ho;simp[AO.bnd,AV.bnd1])
theorem A2F{g:FuncId}{din:D}{r:AV}{ars ars':List AV}(id:Nat)(h:C0 Tryz.prog g ars (F4 din) (λr' os'=>r'=r/\os'=F4 din))(hm:∀n,ars.map (mG (rn [id] n))=ars')(hba:∀a∈ars,a.bnd2 1)(hr:∀f,mA f r=r)(os:List AO)(ho:os[id]?=some (.cells [.d din])) :
  C0 Tryz.prog g ars' os (λr' os'=>r'=r/\os'=os):=by
 have:=C0.frame (K:=λr' os'=>r'=r/\os'=os) h [id] os rfl (by simp) (λi o hx=>?_) hba (λo hx=>?_) ?_
 ·rw[hm] at this;exact this
 ·cases i with
  |zero=>simp at hx;subst hx;exact ho
  |succ i=>simp at hx
 ·cases O4.1 hx
  simp[AO.bnd,AV.bnd1]
 ·rintro _ _ ⟨rfl,rfl⟩
  refine⟨hr _,?_⟩
  have hlt:=(B3.1 ho).1
  have e:os.set id (.cells [.d din])=os:=by
   apply List.ext_getElem?
   intro j
   rw[A57]
   by_cases hj:id=j
   ·subst hj
    rw[if_pos rfl,if_pos hlt,ho]
   ·rw[if_neg hj]
  show W6 _ [id] (F4 din) os=os
  simp only[W6,mO,mC,G5,V5,W2]
  exact e
theorem s5(p:Pl)(kd:D):V4 p kd=.agg ((p.ds++[kd]).map .d):=by unfold V4;simp
theorem A21(ds:List D):∀a∈[AV.ptr 0 0,.agg (ds.map .d)],a.bnd2 1:=by
 intro a ha
 simp only[I2,V6,or_false] at ha
 rcases ha with rfl|rfl
 ·simp[AV.bnd2,AV.bnd1]
 ·exact w9 _ _
theorem A3j(ds:List D)(d:D):∀a∈[AV.ptr 0 0,.agg (ds.map .d),.d d],a.bnd2 1:=by
 intro a ha
 simp only[I2,V6,or_false] at ha
 rcases ha with rfl|rfl|rfl
 ·simp[AV.bnd2,AV.bnd1]
 ·exact w9 _ _
 ·simp[AV.bnd2,AV.bnd1]
theorem B0J(din:D)(o:Po)(ni:Bool)(ins:List Pl)(ho:o.op≠3/\o.op≠5/\o.op≠6)(kd:D)(l:List Ex)(hb:∀x∈l,x.bk<=1073741824)(hl:l.length<=1073741824)(d:D)(hd:B0 d (xL l)) :
  C0 Tryz.prog s8 [.ptr 0 0,V4 (.mk o ni ins) kd,.d d] (F4 din) (λr os=>r=(P5 (.mk o ni ins) l).av/\os=F4 din):=by
 have hF:=A8c (.mk o ni ins) l hb hl d hd
 obtain⟨q,hq⟩:∃q,q=P5 (.mk o ni ins) l:=⟨_,rfl⟩
 rw[<- hq] at hF ⊢
 clear hq
 obtain⟨op',n',dk',dr',xo',xn',xv',xm',xd',dx',dy',da',di',c1,c2⟩:=Pl.cut q
 rw[c2] at hF ⊢
 obtain⟨o1,o2,o3⟩:=ho
 obtain⟨op,n,nk,ki,nr,rows,⟨xo,xn,xv,xm,xl,xa⟩,nx,xs,ny,keys,na,aggs⟩:=o
 dsimp only at o1 o2 o3
 have hds:(Pl.mk (⟨op,n,nk,ki,nr,rows,.mk xo xn xv xm xl xa,nx,xs,ny,keys,na,aggs⟩:Po) ni ins).ds=N9 op n (ng nk (A5 ki)) (ng nr (B6 rows)) xo xn xv xm (ng xl (xL xa)) (ng nx (xL xs)) (ng ny (A5 keys)) (ng na (H4 aggs)) (ng ni (pL ins)):=Pl.ds_eq _ _ _ _ _ _ _ _ _ rfl
 have hav:(Pl.mk (⟨op,n,nk,ki,nr,rows,.mk xo xn xv xm xl xa,nx,xs,ny,keys,na,aggs⟩:Po) ni ins).av=F3 op n (ng nk (A5 ki)) (ng nr (B6 rows)) xo xn xv xm (ng xl (xL xa)) (ng nx (xL xs)) (ng ny (A5 keys)) (ng na (H4 aggs)) (ng ni (pL ins)):=Pl.av_eq _ _ _ _ _ _ _ _ _ rfl
 rw[hav] at hF
 unfold V4
 rw[hds]
 obtain⟨dk,e1⟩:∃d,d=ng nk (A5 ki):=⟨_,rfl⟩
 obtain⟨dr,e2⟩:∃d,d=ng nr (B6 rows):=⟨_,rfl⟩
 obtain⟨dx,e3⟩:∃d,d=ng nx (xL xs):=⟨_,rfl⟩
 obtain⟨dy,e4⟩:∃d,d=ng ny (A5 keys):=⟨_,rfl⟩
 obtain⟨da,e5⟩:∃d,d=ng na (H4 aggs):=⟨_,rfl⟩
 obtain⟨di,e6⟩:∃d,d=ng ni (pL ins):=⟨_,rfl⟩
 obtain⟨xd,e7⟩:∃d,d=ng xl (xL xa):=⟨_,rfl⟩
 rw[<- e1,<- e2,<- e3,<- e4,<- e5,<- e6,<- e7] at hF ⊢
 clear e1 e2 e3 e4 e5 e6 e7 hav hds c1 c2
 have r0:xv.k=xv.k:=rfl
 have r1:xv.s=xv.s:=rfl
 have r2:xm=xm:=rfl
 have r3:xv'.s=xv'.s:=rfl
 have r4:xm'=xm':=rfl
 refine A6i.goX A6 rfl ?_
 repeat' first|refine st ?_|((with_reducible apply A4);conv=>whnf)|refine⟨λ_=>?_,λ_=>?_⟩|fail
 all_goals exact⟨rfl,rfl⟩
abbrev C9(l:List Ex):List Ex:=(cj (K3 false (l.map (A9 0)))).map (A9 0)
theorem C6G(K:List Kw)(hK:K.length<=4294967296)(hKb:∀k∈K,k.ks.length<=4294967296)(din:D)(hin:B0 din (E6 K))(n:Int)(pred:Ex)(a b:Pl)(hab:a.bk<=1073741824)(hbb:b.bk<=1073741824)(kd:D)(l:List Ex)(hb:∀x∈l,x.bk<=1073741824)(hl:l.length<=1073741824)(d:D)(hd:B0 d (xL l))
  (hall:(K3 false (l.map (A9 0))).bk<=1073741824) (m:Nat) (hm:(B9 K a).1.ks.length=m) (hm2:m<=48) (hr:∀x∈C9 l,x.bk<=1073741824) (hrl:(C9 l).length<=1073741824) (ra rb:Pl)
  (hA:C0 Tryz.prog s8 [.ptr 0 0,V4 a (B9 K a).1.d,.d (M4 (xL (C6 m 0 (C9 l))))] (F4 din) (λr os=>r=ra.av/\os=F4 din))
  (hB:C0 Tryz.prog s8 [.ptr 0 0,V4 b (B9 K b).1.d,.d (ng true (xL ((C6 m 1 (C9 l)).map (A9 (0-m)))))] (F4 din) (λr os=>r=rb.av/\os=F4 din)) :
  C0 Tryz.prog s8 [.ptr 0 0,V4 (R9 5 n pred [a,b]) kd,.d d] (F4 din) (λr os=>r=(P5 (R9 5 n pred [ra,rb]) (C6 m 2 (C9 l))).av/\os=F4 din):=by
 have hTa:=A2T K hK hKb din hin a hab
 have hTb:=A2T K hK hKb din hin b hbb
 have hAl:=A8e l hb hl d hd
 have hSp:=B4p m (K3 false (l.map (A9 0))) hall
 have hsel:∀k:Nat,∀x∈C6 m k (C9 l),x∈C9 l:=λk x hx=>(A06.1 hx).1
 have hsl:∀k:Nat,(C6 m k (C9 l)).length<=1073741824:=λk=>J2 (A1D _ _) hrl
 have hFl:=A8c (R9 5 n pred [ra,rb]) (C6 m 2 (C9 l)) (λx hx=>hr x (hsel 2 x hx)) (hsl 2) (M4 (xL (C6 m 2 (C9 l)))) (by rw[A48];exact C7)
 have hSh:=λx hx=>A2S x (hr x (hsel 1 x hx)) (0-(m:Int))
 obtain⟨q,hq⟩:∃q,q=P5 (R9 5 n pred [ra,rb]) (C6 m 2 (C9 l)):=⟨_,rfl⟩
 rw[<- hq] at hFl ⊢
 clear hq hb hl hall hrl hr
 have hska:B0 (B9 K a).1.d (A5 (B9 K a).1.ks):=C7
 have hkl:=G4 (B9 K a).1.ks
 rw[hm] at hkl
 obtain⟨ka,hka⟩:∃d,d=(B9 K a).1.d:=⟨_,rfl⟩
 obtain⟨kb,hkb⟩:∃d,d=(B9 K b).1.d:=⟨_,rfl⟩
 obtain⟨ek,hek⟩:∃z,z=A5 (B9 K a).1.ks:=⟨_,rfl⟩
 rw[<- hka] at hTa hA hska
 rw[<- hkb] at hTb hB
 rw[<- hek] at hska hkl
 clear hka hkb hek hm
 obtain⟨d0,hd0⟩:∃z,z=M4 (xL (C6 m 0 (C9 l))):=⟨_,rfl⟩
 obtain⟨d2,hd2⟩:∃z,z=M4 (xL (C6 m 2 (C9 l))):=⟨_,rfl⟩
 have hs1:B0 (M4 (xL (C6 m 1 (C9 l)))) (xL (C6 m 1 (C9 l))):=by rw[A48];exact C7
 obtain⟨d1,hd1⟩:∃z,z=M4 (xL (C6 m 1 (C9 l))):=⟨_,rfl⟩
 have hSp:Bi.Pure Tryz.prog A5c [(K3 false (l.map (A9 0))).av,.d (eI m)] (.tup [.d (M4 (xL (C6 m 0 (C9 l)))),.d (M4 (xL (C6 m 1 (C9 l)))),.d (M4 (xL (C6 m 2 (C9 l))))]):=hSp
 rw[<- hd0,<- hd1,<- hd2] at hSp
 rw[<- hd0] at hA
 rw[<- hd1] at hs1
 rw[<- hd2] at hFl
 clear hd0 hd1 hd2
 obtain⟨L,hL⟩:∃z,z=C6 m 1 (C9 l):=⟨_,rfl⟩
 rw[<- hL] at hs1 hB hSh
 have hLl:L.length<=1073741824:=by rw[hL];exact hsl 1
 clear hsel hsl
 clear hL
 obtain⟨e,he⟩:∃e,e=K3 false (l.map (A9 0)):=⟨_,rfl⟩
 rw[<- he] at hAl hSp
 clear he
 obtain⟨eo,en,ev',em,el,ea⟩:=e
 rw[Ex.av_mk] at hAl hSp
 obtain⟨ed,hed⟩:∃d,d=ng el (xL ea):=⟨_,rfl⟩
 rw[<- hed] at hAl hSp
 clear hed
 have hm1:∀(ds:List D) n,[AV.ptr 0 0,.agg (ds.map .d)].map (mG (rn [0] n))=[.ptr 0 0,.agg (ds.map .d)]:=λds n=>by
  rw[G5,G5,V5,A1Z];rfl
 have hTaL:=λos2 (ho:os2[0]?=some (AO.cells [.d din]))=>A2F 0 hTa (hm1 a.ds) (A21 _) (λf=>by rw[s5];exact Q9 f _) os2 ho
 have hTbL:=λos2 (ho:os2[0]?=some (AO.cells [.d din]))=>A2F 0 hTb (hm1 b.ds) (A21 _) (λf=>by rw[s5];exact Q9 f _) os2 ho
 clear hm1
 rw[show ng true (xL (L.map (A9 (0-(m:Int)))))=if (xL (L.map (A9 (0-(m:Int))))).isEmpty then .nil else .sl (xL (L.map (A9 (0-(m:Int))))) by cases xL (L.map (A9 (0-(m:Int))))<;>rfl] at hB
 have hAL:=λrest=>n9 hA (by rw[s5];exact A3j _ _) (λf=>Q9 f _) rest
 have hBL:=λrest=>n9 hB (by rw[s5];exact A3j _ _) (λf=>Q9 f _) rest
 clear hTa hTb hA hB
 unfold V4 at *
 obtain⟨xo,xn,xv,xm,xl,xa⟩:=pred
 rw[B36]
 have hpav:(R9 5 n (.mk xo xn xv xm xl xa) [ra,rb]).av=_:=A0w 5 n xo xn xv xm xl xa [ra,rb]
 rw[hpav] at hFl
 have e1:ng true (pL [a,b])=.sl [a.ds,b.ds]:=rfl
 have e2:ng true (pL [ra,rb])=.sl [ra.ds,rb.ds]:=rfl
 rw[e1]
 rw[e2] at hFl
 clear e1 e2 hpav
 obtain⟨xd,hxd⟩:∃d,d=ng xl (xL xa):=⟨_,rfl⟩
 rw[<- hxd] at hFl ⊢
 clear hxd
 obtain⟨ao,an,ak,ar,axo,axn,axv,axm,axd,adx,ady,ada,adi,a1,a2⟩:=Pl.cut a
 obtain⟨bo,bn,bk',br,bxo,bxn,bxv,bxm,bxd,bdx,bdy,bda,bdi,b1,b2⟩:=Pl.cut b
 obtain⟨co,cn,ck,cr,cxo,cxn,cxv,cxm,cxd,cdx,cdy,cda,cdi,c1,c2⟩:=Pl.cut ra
 obtain⟨do',dn,dk,dr,dxo,dxn,dxv,dxm,dxd,ddx,ddy,dda,ddi,d3,d4⟩:=Pl.cut rb
 obtain⟨fo,fn,fk,fr,fxo,fxn,fxv,fxm,fxd,fdx,fdy,fda,fdi,f1,f2⟩:=Pl.cut q
 have hTaL:∀os2:List AO,os2[0]?=some (AO.cells [.d din])->C0 Tryz.prog A3E [.ptr 0 0,F3 ao an ak ar axo axn axv axm axd adx ady ada adi] os2 (λr' os'=>r'=.agg ((N9 ao an ak ar axo axn axv axm axd adx ady ada adi).map .d++[.d ka])/\os'=os2):=λos2 ho=>by
  have:=hTaL os2 ho
  rw[a1] at this
  exact this
 have hTbL:∀os2:List AO,os2[0]?=some (AO.cells [.d din])->C0 Tryz.prog A3E [.ptr 0 0,F3 bo bn bk' br bxo bxn bxv bxm bxd bdx bdy bda bdi] os2 (λr' os'=>r'=.agg ((N9 bo bn bk' br bxo bxn bxv bxm bxd bdx bdy bda bdi).map .d++[.d kb])/\os'=os2):=λos2 ho=>by
  have:=hTbL os2 ho
  rw[b1] at this
  exact this
 rw[a1] at hAL ⊢
 rw[b1] at hBL ⊢
 rw[c2] at hAL
 rw[d4] at hBL
 rw[c1,d3,f2] at hFl
 rw[f2]
 clear a1 a2 b1 b2 c1 c2 d3 d4 f1 f2
 have lL:=N1 L
 have mL:=O6 L
 have gL:=λi x=>@b9 L i x
 obtain⟨es,hes⟩:∃z,z=xL L:=⟨_,rfl⟩
 rw[<- hes] at hs1 lL mL gL
 clear hes
 rw[<- hkl] at hSp
 refine A6i.goX A6 rfl ?_
 repeat' first|refine st ?_|((with_reducible apply A4);conv=>whnf)|((with_reducible apply B2J);(·first|exact hTaL|exact hTbL))|refine⟨λ_=>?_,λ_=>?_⟩|fail
 refine T5 13 7 rfl rfl ?_
 refine B0w ?_
 refine J5 A6 B1d B1a (λ(i:Nat)=>[.arr 5 (xL ((L.take i).map (A9 (0-(m:Int))))).length,.d (eI i)]) (λi=>[.cells [.d din],.cells [.d (eI 5),.d (eI n),.d .nil,.d .nil,.d (eI xo),.d (eI xn),.d (eI xv.k),.d (eI xv.n),.d (.str xv.s),.d (.str xm),.d xd,.d .nil,.d .nil,.d .nil,.d (.sl [N9 ao an ak ar axo axn axv axm axd adx ady ada adi,N9 bo bn bk' br bxo bxn bxv bxm bxd bdx bdy bda bdi]),.d kd],.cells [.d (eI 0),.d (eI 0),.d .nil,.d .nil,.d (eI 0),.d (eI 0),.d (eI 0),.d (eI 0),.d (.str []),.d (.str []),.d .nil,.d .nil,.d .nil,.d .nil,.d .nil],.cells [.d (eI ao),.d (eI an),.d ak,.d ar,.d (eI axo),.d (eI axn),.d (eI axv.k),.d (eI axv.n),.d (.str axv.s),.d (.str axm),.d axd,.d adx,.d ady,.d ada,.d adi,.d ka],.cells [.d (eI bo),.d (eI bn),.d bk',.d br,.d (eI bxo),.d (eI bxn),.d (eI bxv.k),.d (eI bxv.n),.d (.str bxv.s),.d (.str bxm),.d bxd,.d bdx,.d bdy,.d bda,.d bdi,.d kb],.arr (xL ((L.take i).map (A9 (0-(m:Int))))) 7 0 (xL ((L.take i).map (A9 (0-(m:Int))))).isEmpty]) (λi=>i<=L.length) (λi=>L.length-i) 0 rfl rfl rfl rfl (λ_ _=>⟨rfl,rfl⟩) rfl (by omega) ?_
 repeat' first|refine st ?_|((with_reducible apply A4);conv=>whnf)|refine⟨λ_=>?_,λ_=>?_⟩|fail
 intro i i1
 have hw1:(xL ((L.take i).map (A9 (0-(m:Int))))).length=i:=by rw[N1,D3,L6];omega
 have hwm:=O6 ((L.take i).map (A9 (0-(m:Int))))
 have hbd:((xL ((L.take i).map (A9 (0-(m:Int))))).length+1)*88<=140737488355328:=by omega
 cases hx:L[i]? with
 |some x=>
  have hlt:=(B3.1 hx).1
  have hilt:(i:Int)<es.length:=by omega
  have hg:=gL i x hx
  have hS:=hSh x (C3 hx)
  have ht:xL ((L.take (i+1)).map (A9 (0-(m:Int))))=xL ((L.take i).map (A9 (0-(m:Int))))++[(A9 (0-(m:Int)) x).ds]:=by rw[L5,hx];simp[xL]
  obtain⟨A,hA'⟩:∃z,z=xL ((L.take i).map (A9 (0-(m:Int)))):=⟨_,rfl⟩
  rw[<- hA'] at hw1 hwm hbd ht ⊢
  obtain⟨y,hy⟩:∃y,y=A9 (0-(m:Int)) x:=⟨_,rfl⟩
  rw[<- hy] at hS ht
  clear hy gL hx hA' hSh hTaL hTbL hAL hBL hFl hAl hSp
  obtain⟨x1,x2,x3,x4,x5,x6⟩:=x
  obtain⟨y1,y2,y3,y4,y5,y6⟩:=y
  rw[Ex.av_mk,Ex.av_mk] at hS
  rw[Ex.ds_mk] at hg ht
  have hg:es[((i:Nat):Int).toNat]?=some (U3 x1 x2 x3 x4 (ng x5 (xL x6))):=hg
  obtain⟨z1,hz1⟩:∃d,d=ng x5 (xL x6):=⟨_,rfl⟩
  obtain⟨z2,hz2⟩:∃d,d=ng y5 (xL y6):=⟨_,rfl⟩
  rw[<- hz1,<- hz2] at hS
  rw[<- hz1] at hg
  rw[<- hz2] at ht
  clear hz1 hz2
  rw[<- hkl] at hS
  have q0:x3.s=x3.s:=rfl
  have q1:x4=x4:=rfl
  have q2:y3.s=y3.s:=rfl
  have q3:y4=y4:=rfl
  repeat' first|refine st ?_|((with_reducible apply A4);conv=>whnf)|refine⟨λ_=>?_,λ_=>?_⟩|fail
  exact⟨i+1,by rw[ht];simp,rfl,by rw[ht];simp,by omega,by omega⟩
 |none=>
  have hge:=F2.1 hx
  have hilt:(es.length:Int)<=i:=by omega
  rw[H0 hge] at hw1 hwm hbd ⊢
  obtain⟨A,hA'⟩:∃z,z=xL (L.map (A9 (0-(m:Int)))):=⟨_,rfl⟩
  rw[<- hA'] at hw1 hwm hbd hBL ⊢
  clear gL hx hA' hSh hTaL hTbL hAl hSp
  repeat' first|refine st ?_|((with_reducible apply A4);conv=>whnf)|refine⟨λ_=>?_,λ_=>?_⟩|fail
  refine⟨_,_,l8.frz 13 rfl rfl rfl l8.refl,?_⟩
  refine A7j ?_
  repeat' first|refine st ?_|((with_reducible apply A4);conv=>whnf)|((with_reducible first|apply O1|apply O0);(·first|exact hAL _|exact hBL _);(try rintro _ _ ⟨rfl,rfl⟩))|((with_reducible apply O2);(·first|exact hAL _|exact hBL _))|refine⟨λ_=>?_,λ_=>?_⟩|fail
  all_goals exact⟨rfl,rfl⟩
theorem A9Y(ds:List D)(g:FuncId):∀a∈[AV.agg (ds.map .d),.bcl g 0],a.bnd2 1:=by
 intro a ha
 simp only[I2,V6,or_false] at ha
 rcases ha with rfl|rfl
 ·exact w9 _ _
 ·simp[AV.bnd2,AV.bnd1]
theorem B4r(din:D)(Φ:Pl->Pl)(op n:Int)(pred:Ex)(ins:List Pl)(hop:op≠3)(hpb:pred.bk<=1073741824)(hil:ins.length<=1073741824)(hf:∀x∈ins,C0 Tryz.prog P9 [.ptr 0 0,x.av] (F4 din) (λr os=>r=(Φ x).av/\os=F4 din)) :
  C0 Tryz.prog P9 [.ptr 0 0,(R9 op n pred ins).av] (F4 din) (λr os=>r=(R9 op n (A9 0 pred) (ins.map Φ)).av/\os=F4 din):=by
 have hM:=B4i P9 Φ din op n pred hpb ins hil hf
 have hML:=λrest=>n9 hM (A9Y _ _) (λf=>Q9 f _) rest
 clear hM hf
 obtain⟨e2,he2⟩:∃e,e=A9 0 pred:=⟨_,rfl⟩
 rw[<- he2] at hML ⊢
 clear he2 hpb
 obtain⟨xo,xn,xv,xm,xl,xa⟩:=pred
 obtain⟨yo,yn,yv,ym,yl,ya⟩:=e2
 have e1:=A0w op n xo xn xv xm xl xa ins
 have e2:=A0w op n yo yn yv ym yl ya (ins.map Φ)
 rw[e1,e2] at hML ⊢
 obtain⟨xd,hxd⟩:∃d,d=ng xl (xL xa):=⟨_,rfl⟩
 obtain⟨yd,hyd⟩:∃d,d=ng yl (xL ya):=⟨_,rfl⟩
 obtain⟨d1,hd1⟩:∃d,d=ng true (pL ins):=⟨_,rfl⟩
 obtain⟨d2,hd2⟩:∃d,d=ng true (pL (ins.map Φ)):=⟨_,rfl⟩
 rw[<- hxd,<- hyd,<- hd1,<- hd2] at hML ⊢
 clear hxd hyd hd1 hd2 e1 e2
 have r0:xv.k=xv.k:=rfl
 have r1:xv.s=xv.s:=rfl
 have r2:xm=xm:=rfl
 have r3:yv.s=yv.s:=rfl
 have r4:ym=ym:=rfl
 refine A8r.goX A6 rfl ?_
 repeat' first|refine st ?_|((with_reducible apply A4);conv=>whnf)|((with_reducible first|apply O1|apply O0);(·exact hML _);(try rintro _ _ ⟨rfl,rfl⟩))|((with_reducible apply O2);(·exact hML _))|refine⟨λ_=>?_,λ_=>?_⟩|fail
 all_goals first|exact⟨rfl,rfl⟩|(exfalso;omega)
theorem C6M(K:List Kw)(hK:K.length<=4294967296)(hKb:∀k∈K,k.ks.length<=4294967296)(din:D)(hin:B0 din (E6 K))(n:Int)(pred:Ex)(a b q:Pl)(hpb:pred.bk<=1073741824)(hpb2:(A9 0 pred).bk<=1073741824)(hbb:b.bk<=1073741824)(hf:C0 Tryz.prog P9 [.ptr 0 0,a.av] (F4 din) (λr os=>r=b.av/\os=F4 din))
  (hP:C0 Tryz.prog s8 [.ptr 0 0,V4 b (B9 K b).1.d,.d (M4 (xL ((cj (A9 0 pred)).map (A9 0))))] (F4 din) (λr os=>r=q.av/\os=F4 din)) :
  C0 Tryz.prog P9 [.ptr 0 0,(R9 3 n pred [a]).av] (F4 din) (λr os=>r=q.av/\os=F4 din):=by
 have hM:=B4i P9 (λ_=>b) din 3 n pred hpb [a] (by simp) (λx hx=>by rw[O4.1 hx];exact hf)
 have hML:=λrest=>n9 hM (A9Y _ _) (λf=>Q9 f _) rest
 have hT:=A2T K hK hKb din hin b hbb
 have hC:=A8f (A9 0 pred) hpb2
 have hTL:=λrest=>n9 hT (A21 _) (λf=>by rw[s5];exact Q9 f _) rest
 have hPL:=λrest=>n9 hP (by rw[s5];exact A3j _ _) (λf=>Q9 f _) rest
 clear hM hf hT hP
 obtain⟨d,hd⟩:∃d,d=M4 (xL ((cj (A9 0 pred)).map (A9 0))):=⟨_,rfl⟩
 rw[<- hd] at hC hPL
 clear hd
 obtain⟨kd,hkd⟩:∃d,d=(B9 K b).1.d:=⟨_,rfl⟩
 rw[<- hkd] at hTL hPL
 clear hkd
 obtain⟨e2,he2⟩:∃e,e=A9 0 pred:=⟨_,rfl⟩
 rw[<- he2] at hML hC
 clear he2 hpb hpb2
 obtain⟨xo,xn,xv,xm,xl,xa⟩:=pred
 obtain⟨yo,yn,yv,ym,yl,ya⟩:=e2
 have e1:=A0w 3 n xo xn xv xm xl xa [a]
 have e2:=A0w 3 n yo yn yv ym yl ya [b]
 have hML:∀rest,C0 Tryz.prog A2i [(R9 3 n (.mk xo xn xv xm xl xa) [a]).av,.bcl P9 0] (F4 din++rest) (λr' os'=>r'=(R9 3 n (.mk yo yn yv ym yl ya) [b]).av/\os'=F4 din++rest):=hML
 rw[e1,e2] at hML
 rw[e1]
 rw[Ex.av_mk] at hC
 unfold V4 at hTL hPL
 obtain⟨xd,hxd⟩:∃d,d=ng xl (xL xa):=⟨_,rfl⟩
 obtain⟨yd,hyd⟩:∃d,d=ng yl (xL ya):=⟨_,rfl⟩
 have e3:ng true (pL [a])=.sl [a.ds]:=rfl
 have e4:ng true (pL [b])=.sl [b.ds]:=rfl
 rw[<- hxd,<- hyd,e3,e4] at hML
 rw[<- hxd,e3]
 rw[<- hyd] at hC
 clear hxd hyd e1 e2 e3 e4
 obtain⟨ao,an,ak,ar,axo,axn,axv,axm,axd,adx,ady,ada,adi,a1,a2⟩:=Pl.cut a
 obtain⟨bo,bn,bk',br,bxo,bxn,bxv,bxm,bxd,bdx,bdy,bda,bdi,b1,b2⟩:=Pl.cut b
 obtain⟨fo,fn,fk,fr,fxo,fxn,fxv,fxm,fxd,fdx,fdy,fda,fdi,f1,f2⟩:=Pl.cut q
 rw[a1] at hML ⊢
 rw[b1] at hML hTL hPL
 rw[b2] at hTL
 rw[f2] at hPL ⊢
 clear a1 a2 b1 b2 f1 f2
 have r0:xv.k=xv.k:=rfl
 have r1:xv.s=xv.s:=rfl
 have r2:xm=xm:=rfl
 have r3:yv.s=yv.s:=rfl
 have r4:ym=ym:=rfl
 refine A8r.goX A6 rfl ?_
 repeat' first|refine st ?_|((with_reducible apply A4);conv=>whnf)|((with_reducible first|apply O1|apply O0);(·first|exact hML _|exact hTL _|exact hPL _);(try rintro _ _ ⟨rfl,rfl⟩))|((with_reducible apply O2);(·first|exact hML _|exact hTL _|exact hPL _))|refine⟨λ_=>?_,λ_=>?_⟩|fail
 all_goals first|exact⟨rfl,rfl⟩|(exfalso;omega)
theorem C7M(K:List Kw)(hK:K.length<=4294967296)(hKb:∀k∈K,k.ks.length<=4294967296)(din:D)(hin:B0 din (E6 K))(g:FuncId)(p q:Pl)(hpb:p.bk<=1073741824)(hqb:q.bk<=1073741824)(hg:C0 Tryz.prog g [.ptr 0 0,p.av] (F4 din) (λr os=>r=q.av/\os=F4 din))
  (h1:(B9 K p).2=0) (h2:(B9 K q).2=0) (h3:(B9 K p).1.ks=(B9 K q).1.ks) (h4:(B9 K p).1.ks.length<=48) :
  C0 Tryz.prog A1G [.ptr 0 0,p.av,.bcl g 0] (F4 din) (λr os=>r=q.av/\os=F4 din):=by
 have hCp:=A3y K hK hKb din hin p hpb
 have hCq:=A3y K hK hKb din hin q hqb
 have hE:=B0O (B9 K p).1.ks (B9 K q).1.ks (by omega) (by rw[<- h3];omega) (B9 K p).1.d (B9 K q).1.d C7 C7
 rw[decide_eq_true h3] at hE
 rw[h1] at hCp
 rw[h2] at hCq
 obtain⟨kp,hkp⟩:∃d,d=(B9 K p).1.d:=⟨_,rfl⟩
 obtain⟨kq,hkq⟩:∃d,d=(B9 K q).1.d:=⟨_,rfl⟩
 rw[<- hkp] at hCp hE
 rw[<- hkq] at hCq hE
 clear hkp hkq h1 h2 h3 h4
 have hgL:=λrest=>n9 hg (A21 _) (λf=>Q9 f _) rest
 clear hg
 obtain⟨ao,an,ak,ar,axo,axn,axv,axm,axd,adx,ady,ada,adi,a1,a2⟩:=Pl.cut p
 obtain⟨bo,bn,bk',br,bxo,bxn,bxv,bxm,bxd,bdx,bdy,bda,bdi,b1,b2⟩:=Pl.cut q
 rw[a2] at hCp hgL ⊢
 rw[b2] at hCq hgL ⊢
 clear a1 a2 b1 b2
 have r0:axv.s=axv.s:=rfl
 have r1:axm=axm:=rfl
 have r2:bxv.s=bxv.s:=rfl
 have r3:bxm=bxm:=rfl
 refine A4q.goX A6 rfl ?_
 repeat' first|refine st ?_|((with_reducible apply A4);conv=>whnf)|((with_reducible first|apply O1|apply O0);(·exact hgL _);(try rintro _ _ ⟨rfl,rfl⟩))|((with_reducible apply O2);(·exact hgL _))|refine⟨λ_=>?_,λ_=>?_⟩|fail
 all_goals exact⟨rfl,rfl⟩
theorem C6A(K:List Kw)(hK:K.length<=4294967296)(hKb:∀k∈K,k.ks.length<=4294967296)(din:D)(hin:B0 din (E6 K))(p q:Pl)(hpb:p.bk<=1073741824)(hqb:q.bk<=1073741824)(hg:C0 Tryz.prog P9 [.ptr 0 0,p.av] (F4 din) (λr os=>r=q.av/\os=F4 din))
  (h1:(B9 K p).2=0) (h2:(B9 K q).2=0) (h3:(B9 K p).1.ks=(B9 K q).1.ks) (h4:(B9 K p).1.ks.length<=48):Pure Tryz.prog A6t [p.av,.d din] q.av:=by
 have hS:=C7M K hK hKb din hin _ p q hpb hqb hg h1 h2 h3 h4
 have hm1:∀(ds:List D) n,[AV.ptr 0 0,.agg (ds.map .d),.bcl P9 0].map (mG (rn [2] n))=[.ptr 2 0,.agg (ds.map .d),.bcl P9 2]:=λds n=>by
  rw[G5,G5,G5,V5,A1Z];rfl
 have hSL:=λos (ho:os[2]?=some (AO.cells [.d din]))=>A2F 2 hS (hm1 p.ds) (λa ha=>by
  simp only[I2,V6,or_false] at ha
  rcases ha with rfl|rfl|rfl
  ·simp[AV.bnd2,AV.bnd1]
  ·exact w9 _ _
  ·simp[AV.bnd2,AV.bnd1]) (λf=>Q9 f _) os ho
 clear hS hm1 hg
 obtain⟨ao,an,ak,ar,axo,axn,axv,axm,axd,adx,ady,ada,adi,a1,a2⟩:=Pl.cut p
 obtain⟨bo,bn,bk',br,bxo,bxn,bxv,bxm,bxd,bdx,bdy,bda,bdi,b1,b2⟩:=Pl.cut q
 have hSL:∀os:List AO,os[2]?=some (AO.cells [.d din])->C0 Tryz.prog A1G [.ptr 2 0,F3 ao an ak ar axo axn axv axm axd adx ady ada adi,.bcl P9 2] os (λr' os'=>r'=F3 bo bn bk' br bxo bxn bxv bxm bxd bdx bdy bda bdi/\os'=os):=λos ho=>by
  have:=hSL os ho
  rw[a1] at this
  rw[<- b2]
  exact this
 rw[a2,b2]
 clear a1 a2 b1 b2
 have r0:axv.s=axv.s:=rfl
 have r1:axm=axm:=rfl
 have r2:bxv.s=bxv.s:=rfl
 have r3:bxm=bxm:=rfl
 refine B5d.go A6 rfl ?_
 repeat' first|refine st ?_|((with_reducible apply A4);conv=>whnf)|((with_reducible first|apply O1|apply O0);(·exact hSL _ rfl);(try rintro _ _ ⟨rfl,rfl⟩))|((with_reducible apply O2);(·exact hSL _ rfl))|refine⟨λ_=>?_,λ_=>?_⟩|fail
 all_goals rfl
end Go.Proofs
end
section
namespace Go.Proofs
open Go.Bi
theorem B0I(l:List Ex)(hl:l.length<=1073741824)(hb:∀x∈l,x.bk<=1073741824)(d:D)(hd:B0 d (xL l)):Pure Tryz.prog B1E [.d d] (.d (ng true (xL (l.map (A9 0))))):=by
 have hSh:=λx hx=>A2S x (hb x hx) 0
 have lL:=N1 l
 have mL:=O6 l
 have gL:=λi x=>@b9 l i x
 obtain⟨es,hes⟩:∃z,z=xL l:=⟨_,rfl⟩
 rw[<- hes] at hd lL mL gL
 clear hes hb
 refine B5h.go A6 rfl ?_
 repeat' first|refine st ?_|((with_reducible apply A4);conv=>whnf)|refine⟨λ_=>?_,λ_=>?_⟩|fail
 refine T5 3 7 rfl rfl ?_
 refine J5 A6 D3c D1R (λ(i:Nat)=>[.arr 0 (xL ((l.take i).map (A9 0))).length,.d (eI i)]) (λi=>[.arr (xL ((l.take i).map (A9 0))) 7 0 (xL ((l.take i).map (A9 0))).isEmpty]) (λi=>i<=l.length) (λi=>l.length-i) 0 rfl rfl rfl rfl (λ_ _=>⟨rfl,rfl⟩) rfl (by omega) ?_
 repeat' first|refine st ?_|((with_reducible apply A4);conv=>whnf)|refine⟨λ_=>?_,λ_=>?_⟩|fail
 intro i i1
 have hw1:(xL ((l.take i).map (A9 0))).length=i:=by rw[N1,D3,L6];omega
 have hwm:=O6 ((l.take i).map (A9 0))
 have hbd:((xL ((l.take i).map (A9 0))).length+1)*88<=140737488355328:=by omega
 cases hx:l[i]? with
 |some x=>
  have hlt:=(B3.1 hx).1
  have hilt:(i:Int)<es.length:=by omega
  have hg:=gL i x hx
  have hS:=hSh x (C3 hx)
  have ht:xL ((l.take (i+1)).map (A9 0))=xL ((l.take i).map (A9 0))++[(A9 0 x).ds]:=by rw[L5,hx];simp[xL]
  obtain⟨A,hA'⟩:∃z,z=xL ((l.take i).map (A9 0)):=⟨_,rfl⟩
  rw[<- hA'] at hw1 hwm hbd ht ⊢
  obtain⟨y,hy⟩:∃y,y=A9 0 x:=⟨_,rfl⟩
  rw[<- hy] at hS ht
  clear hy gL hx hA' hSh
  obtain⟨x1,x2,x3,x4,x5,x6⟩:=x
  obtain⟨y1,y2,y3,y4,y5,y6⟩:=y
  rw[Ex.av_mk,Ex.av_mk] at hS
  rw[Ex.ds_mk] at hg ht
  have hg:es[((i:Nat):Int).toNat]?=some (U3 x1 x2 x3 x4 (ng x5 (xL x6))):=hg
  obtain⟨z1,hz1⟩:∃d,d=ng x5 (xL x6):=⟨_,rfl⟩
  obtain⟨z2,hz2⟩:∃d,d=ng y5 (xL y6):=⟨_,rfl⟩
  rw[<- hz1,<- hz2] at hS
  rw[<- hz1] at hg
  rw[<- hz2] at ht
  clear hz1 hz2
  repeat' first|refine st ?_|((with_reducible apply A4);conv=>whnf)|refine⟨λ_=>?_,λ_=>?_⟩|fail
  exact⟨i+1,by rw[ht];simp,rfl,by rw[ht];simp,by omega,by omega⟩
 |none=>
  have hge:=F2.1 hx
  have hilt:(es.length:Int)<=i:=by omega
  rw[H0 hge] at hw1 hwm hbd ⊢
  obtain⟨A,hA'⟩:∃z,z=xL (l.map (A9 0)):=⟨_,rfl⟩
  rw[<- hA'] at hw1 hwm hbd ⊢
  clear gL hx hA' hSh
  repeat' first|refine st ?_|((with_reducible apply A4);conv=>whnf)|refine⟨λ_=>?_,λ_=>?_⟩|fail
  all_goals (cases A<;>rfl)
mutual
/-- The scans of a plan. -/
def D8:Pl->List Int
 |.mk o _ ins=>(if o.op=1 then [o.n] else [])++A7R ins
def A7R:List Pl->List Int
 |[]=>[]
 |p::r=>D8 p++A7R r
end
theorem C4N:∀l,A7R l=l.flatMap D8
 |[]=>by simp[A7R]
 |e::es=>by simp[A7R,C4N es]
theorem A23(o:Po)(ni:Bool)(ins:List Pl):D8 (.mk o ni ins)=(if o.op=1 then [o.n] else [])++ins.flatMap D8:=by rw[D8,C4N]
theorem E1J{l:List Pl}(h:∀p∈l,(D8 p).length<=p.bk):(l.flatMap D8).length<=D5 (pL l):=by
 induction l with
 |nil=>simp
 |cons a l ih=>
  have h1:=h a (by simp)
  have h2:=ih λb hb=>h b (by simp[hb])
  rw[A55,H3]
  simp only[pL,G5,D5]
  unfold Pl.bk at h1
  unfold pL at h2
  omega
theorem B3s:∀p:Pl,(D8 p).length<=p.bk:=by
 refine Pl.ind λo ni ins ih=>?_
 have h1:=E1J ih
 have h2:=Pl.bk_mk o ni ins
 rw[A23,H3]
 have:(if o.op=1 then [o.n] else []).length<=1:=by split<;>simp
 omega
theorem B4m:∀p:Pl,p.bk<=1073741824->Pure Tryz.prog C0l [p.av] (.d (ng true (A5 (D8 p)))):=by
 refine Pl.ind λo ni ins ih hb=>?_
 have hB:=Pl.bd hb
 have hbk:∀i:Nat,((if o.op=1 then [o.n] else [])++(ins.take i).flatMap D8).length<=1073741824:=λi=>by
  have h1:=B3s (.mk o ni ins)
  rw[A23] at h1
  have h2:((ins.take i).flatMap D8).length<=(ins.flatMap D8).length:=by
   conv=>rhs;rw[<- A6n i ins,List.flatMap_append,H3]
   omega
  rw[H3] at h1 ⊢
  omega
 have hq:=A23 o ni ins
 obtain⟨q,hqq⟩:∃q,q=D8 (.mk o ni ins):=⟨_,rfl⟩
 rw[<- hqq] at hq ⊢
 clear hqq
 obtain⟨xo,xn,xv,xm,xd,hav,_⟩:=Pl.cuto o ni ins
 rw[hav]
 have hdi:B0 (ng ni (pL ins)) (pL ins):=C7
 obtain⟨dk,e1⟩:∃d,d=o.dk:=⟨_,rfl⟩
 obtain⟨dr,e2⟩:∃d,d=o.dr:=⟨_,rfl⟩
 obtain⟨dx,e3⟩:∃d,d=o.dx:=⟨_,rfl⟩
 obtain⟨dy,e4⟩:∃d,d=o.dy:=⟨_,rfl⟩
 obtain⟨da,e5⟩:∃d,d=o.da:=⟨_,rfl⟩
 obtain⟨di,e6⟩:∃d,d=ng ni (pL ins):=⟨_,rfl⟩
 rw[<- e1,<- e2,<- e3,<- e4,<- e5,<- e6]
 rw[<- e6] at hdi
 clear e1 e2 e3 e4 e5 e6 hav
 have l1:=n7 ins
 have m1:=u7 ins
 have g1:=λi p=>@A0e ins i p
 obtain⟨es,hes⟩:∃z,z=pL ins:=⟨_,rfl⟩
 rw[<- hes] at hdi l1 m1 g1
 clear hes
 have hil:=hB.il
 have hsub:=hB.sub
 clear hB hb
 obtain⟨op,hop⟩:∃x,x=o.op:=⟨_,rfl⟩
 obtain⟨n,hn⟩:∃x,x=o.n:=⟨_,rfl⟩
 rw[<- hop,<- hn] at hq ⊢
 have hbk:∀i:Nat,((if op=1 then [n] else [])++(ins.take i).flatMap D8).length<=1073741824:=by rw[hop,hn];exact hbk
 clear hop hn
 obtain⟨F0,hF⟩:∃z,z=if op=1 then [n] else []:=⟨_,rfl⟩
 rw[<- hF] at hq hbk
 by_cases h1:op=1
 ·subst h1
  rw[if_pos rfl] at hF
  subst hF
  refine B5f.go A6 rfl ?_
  repeat' first|refine st ?_|((with_reducible apply A4);conv=>whnf)|refine⟨λ_=>?_,λ_=>?_⟩|fail
  refine J5 A6 B8I B8C (λ(i:Nat)=>[.arr 2 (A5 ([n]++(ins.take i).flatMap D8)).length,.d (eI i)]) (λi=>[.cells [.d (eI 1),.d (eI n),.d dk,.d dr,.d (eI xo),.d (eI xn),.d (eI xv.k),.d (eI xv.n),.d (.str xv.s),.d (.str xm),.d xd,.d dx,.d dy,.d da,.d di],.arr [[eI n]] 1 0 false,.arr (A5 ([n]++(ins.take i).flatMap D8)) 1 0 false]) (λi=>i<=ins.length) (λi=>ins.length-i) 0 rfl rfl rfl rfl (λ_ _=>⟨rfl,rfl⟩) rfl (by omega) ?_
  repeat' first|refine st ?_|((with_reducible apply A4);conv=>whnf)|refine⟨λ_=>?_,λ_=>?_⟩|fail
  intro i i1
  have hb1:=hbk i
  have hb2:=hbk (i+1)
  have hwl:=G4 ([n]++(ins.take i).flatMap D8)
  have hwm:=I0 ([n]++(ins.take i).flatMap D8)
  cases hx:ins[i]? with
  |some p=>
   have hlt:=(B3.1 hx).1
   have hilt:(i:Int)<es.length:=by omega
   have hg:=g1 i p hx
   have hI:=ih p (C3 hx) (hsub p (C3 hx))
   have ht0:(ins.take (i+1)).flatMap D8=(ins.take i).flatMap D8++D8 p:=by rw[L5,hx];simp
   have ht:A5 ([n]++(ins.take (i+1)).flatMap D8)=A5 ([n]++(ins.take i).flatMap D8)++A5 (D8 p):=by rw[ht0];simp[A5]
   rw[ht0] at hb2
   have hsl:=G4 (D8 p)
   have hsm:=I0 (D8 p)
   have hsd:B0 (ng true (A5 (D8 p))) (A5 (D8 p)):=C7
   obtain⟨A,hA⟩:∃z,z=A5 ([n]++(ins.take i).flatMap D8):=⟨_,rfl⟩
   rw[<- hA] at hwl hwm ht ⊢
   have hb3:A.length+(A5 (D8 p)).length<=1073741824:=by
    rw[hsl,hwl]
    simp only[H3] at hb2 ⊢
    omega
   obtain⟨op',n',dk',dr',xo',xn',xv',xm',xd',dx',dy',da',di',c1,c2⟩:=Pl.cut p
   have hg:es[((i:Nat):Int).toNat]?=some (N9 op' n' dk' dr' xo' xn' xv' xm' xd' dx' dy' da' di'):=by rw[<- c1];exact hg
   rw[c2] at hI
   obtain⟨B,hB⟩:∃z,z=A5 (D8 p):=⟨_,rfl⟩
   rw[<- hB] at hI ht hsm hsd hb3
   obtain⟨sd,hsdd⟩:∃z,z=ng true B:=⟨_,rfl⟩
   rw[<- hsdd] at hI hsd
   have hbd:(A.length+B.length)*8<=140737488355328/\A.length+B.length<=9223372036854775807:=by omega
   clear hsl hsdd hB hA c1 c2 hx g1 ih hbk hb1 hb2 hwl
   rcases hsd with ⟨rfl,rfl⟩|rfl
   ·have hbd0:(A.length+([]:List (List D)).length)*8<=140737488355328:=hbd.1
    repeat' first|refine st ?_|((with_reducible apply A4);conv=>whnf)|refine⟨λ_=>?_,λ_=>?_⟩|fail
    exact⟨i+1,by rw[ht];simp,rfl,by rw[ht];simp,by omega,by omega⟩
   ·repeat' first|refine st ?_|((with_reducible apply A4);conv=>whnf)|refine⟨λ_=>?_,λ_=>?_⟩|fail
    exact⟨i+1,by rw[ht];simp,rfl,by rw[ht];simp,by omega,by omega⟩
  |none=>
   have hge:=F2.1 hx
   have hilt:(es.length:Int)<=i:=by omega
   rw[H0 hge] at hwl hwm hb1 ⊢
   rw[hq]
   have hne:ng true (A5 ([n]++ins.flatMap D8))=.sl (A5 ([n]++ins.flatMap D8)):=rfl
   rw[hne]
   obtain⟨A,hA⟩:∃z,z=A5 ([n]++ins.flatMap D8):=⟨_,rfl⟩
   rw[<- hA] at hwl hwm ⊢
   clear hx g1 ih hA hne
   repeat' first|refine st ?_|((with_reducible apply A4);conv=>whnf)|refine⟨λ_=>?_,λ_=>?_⟩|fail
   all_goals rfl
 ·rw[if_neg h1] at hF
  subst hF
  have hq:q=ins.flatMap D8:=hq
  have hbk:∀i:Nat,((ins.take i).flatMap D8).length<=1073741824:=hbk
  refine B5f.go A6 rfl ?_
  repeat' first|refine st ?_|((with_reducible apply A4);conv=>whnf)|refine⟨λ_=>?_,λ_=>?_⟩|fail
  refine T5 3 1 rfl rfl ?_
  refine J5 A6 B8I B8C (λ(i:Nat)=>[.arr 1 (A5 ((ins.take i).flatMap D8)).length,.d (eI i)]) (λi=>[.cells [.d (eI op),.d (eI n),.d dk,.d dr,.d (eI xo),.d (eI xn),.d (eI xv.k),.d (eI xv.n),.d (.str xv.s),.d (.str xm),.d xd,.d dx,.d dy,.d da,.d di],.arr (A5 ((ins.take i).flatMap D8)) 1 0 (A5 ((ins.take i).flatMap D8)).isEmpty]) (λi=>i<=ins.length) (λi=>ins.length-i) 0 rfl rfl rfl rfl (λ_ _=>⟨rfl,rfl⟩) rfl (by omega) ?_
  repeat' first|refine st ?_|((with_reducible apply A4);conv=>whnf)|refine⟨λ_=>?_,λ_=>?_⟩|fail
  intro i i1
  have hb1:=hbk i
  have hb2:=hbk (i+1)
  have hwl:=G4 ((ins.take i).flatMap D8)
  have hwm:=I0 ((ins.take i).flatMap D8)
  cases hx:ins[i]? with
  |some p=>
   have hlt:=(B3.1 hx).1
   have hilt:(i:Int)<es.length:=by omega
   have hg:=g1 i p hx
   have hI:=ih p (C3 hx) (hsub p (C3 hx))
   have ht0:(ins.take (i+1)).flatMap D8=(ins.take i).flatMap D8++D8 p:=by rw[L5,hx];simp
   have ht:A5 ((ins.take (i+1)).flatMap D8)=A5 ((ins.take i).flatMap D8)++A5 (D8 p):=by rw[ht0];simp[A5]
   rw[ht0] at hb2
   have hsl:=G4 (D8 p)
   have hsm:=I0 (D8 p)
   have hsd:B0 (ng true (A5 (D8 p))) (A5 (D8 p)):=C7
   obtain⟨A,hA⟩:∃z,z=A5 ((ins.take i).flatMap D8):=⟨_,rfl⟩
   rw[<- hA] at hwl hwm ht ⊢
   have hb3:A.length+(A5 (D8 p)).length<=1073741824:=by
    rw[hsl,hwl]
    simp only[H3] at hb2 ⊢
    omega
   obtain⟨op',n',dk',dr',xo',xn',xv',xm',xd',dx',dy',da',di',c1,c2⟩:=Pl.cut p
   have hg:es[((i:Nat):Int).toNat]?=some (N9 op' n' dk' dr' xo' xn' xv' xm' xd' dx' dy' da' di'):=by rw[<- c1];exact hg
   rw[c2] at hI
   obtain⟨B,hB⟩:∃z,z=A5 (D8 p):=⟨_,rfl⟩
   rw[<- hB] at hI ht hsm hsd hb3
   obtain⟨sd,hsdd⟩:∃z,z=ng true B:=⟨_,rfl⟩
   rw[<- hsdd] at hI hsd
   have hbd:(A.length+B.length)*8<=140737488355328/\A.length+B.length<=9223372036854775807:=by omega
   clear hsl hsdd hB hA c1 c2 hx g1 ih hbk hb1 hb2 hwl
   rcases hsd with ⟨rfl,rfl⟩|rfl
   ·have hbd0:(A.length+([]:List (List D)).length)*8<=140737488355328:=hbd.1
    repeat' first|refine st ?_|((with_reducible apply A4);conv=>whnf)|refine⟨λ_=>?_,λ_=>?_⟩|fail
    exact⟨i+1,by rw[ht];simp,rfl,by rw[ht];cases A<;>simp,by omega,by omega⟩
   ·repeat' first|refine st ?_|((with_reducible apply A4);conv=>whnf)|refine⟨λ_=>?_,λ_=>?_⟩|fail
    exact⟨i+1,by rw[ht];simp,rfl,by rw[ht];cases A<;>cases B<;>rfl,by omega,by omega⟩
  |none=>
   have hge:=F2.1 hx
   have hilt:(es.length:Int)<=i:=by omega
   rw[H0 hge] at hwl hwm hb1 ⊢
   rw[hq]
   obtain⟨A,hA⟩:∃z,z=A5 (ins.flatMap D8):=⟨_,rfl⟩
   rw[<- hA] at hwl hwm ⊢
   clear hx g1 ih hA
   repeat' first|refine st ?_|((with_reducible apply A4);conv=>whnf)|refine⟨λ_=>?_,λ_=>?_⟩|fail
   all_goals (cases A<;>rfl)
abbrev A2q(v:Vl):Ex:=.mk 1 0 v [] true []
abbrev D7V(i:Int):Ex:=.mk 2 i C5 [] true []
abbrev G8(i n:Int):Ex:=.mk 7 0 C5 [] true [D7V i,A2q ⟨1,n,[]⟩]
theorem B0G(i n:Int):Pure Tryz.prog B8W [.d (eI i),.d (eI n)] (G8 i n).av:=by
 rw[Ex.av_mk]
 refine C8a.go A6 rfl ?_
 repeat' first|refine st ?_|((with_reducible apply A4);conv=>whnf)|refine⟨λ_=>?_,λ_=>?_⟩|fail
 all_goals rfl
theorem B4g(x e:Ex)(hx:x.bk<=1073741824)(he:e.bk<=1073741824)(h:T3 x e=true):Pure Tryz.prog B8V [.d (.sl [x.ds]),e.av] (.d (.bool true)):=by
 have hS:=B4y x (by omega) e (by omega)
 rw[h] at hS
 clear h hx he
 obtain⟨x1,x2,x3,x4,x5,x6⟩:=x
 obtain⟨y1,y2,y3,y4,y5,y6⟩:=e
 rw[Ex.av_mk,Ex.av_mk] at hS
 rw[Ex.av_mk,Ex.ds_mk]
 obtain⟨z1,hz1⟩:∃d,d=ng x5 (xL x6):=⟨_,rfl⟩
 obtain⟨z2,hz2⟩:∃d,d=ng y5 (xL y6):=⟨_,rfl⟩
 rw[<- hz1,<- hz2] at hS ⊢
 clear hz1 hz2
 refine C89.go A6 rfl ?_
 repeat' first|refine st ?_|((with_reducible apply A4);conv=>whnf)|refine⟨λ_=>?_,λ_=>?_⟩|fail
 refine A0X 1 (j8 A6 ?_)
 repeat' first|refine st ?_|((with_reducible apply A4);conv=>whnf)|refine⟨λ_=>?_,λ_=>?_⟩|fail
 all_goals rfl
theorem B0F(n input:Int)(pred:Ex):Pure Tryz.prog A3D [(R9 1 n pred []).av,.d (eI input)] (.tup [.d .nil,.d (.bool (decide (n=input))),.d (.bool (decide (n=input)))]):=by
 obtain⟨xo,xn,xv,xm,xl,xa⟩:=pred
 rw[A0w]
 obtain⟨xd,hxd⟩:∃d,d=ng xl (xL xa):=⟨_,rfl⟩
 rw[<- hxd,show ng true (pL [])=.nil from rfl]
 clear hxd
 refine A6h.go A6 rfl ?_
 repeat' first|refine st ?_|((with_reducible apply A4);conv=>whnf)|refine⟨λ_=>?_,λ_=>?_⟩|fail
 refine A0X 1 (j8 A6 ?_)
 repeat' first|refine st ?_|((with_reducible apply A4);conv=>whnf)|refine⟨λ_=>?_,λ_=>?_⟩|fail
 all_goals rfl
theorem B0E(n input:Int)(pred:Ex)(x:Pl)(b:Bool)(hx:Pure Tryz.prog A3D [x.av,.d (eI input)] (.tup [.d .nil,.d (.bool b),.d (.bool b)])) :
  Pure Tryz.prog A3D [(R9 3 n pred [x]).av,.d (eI input)] (.tup [.d (if b then .sl [pred.ds] else .nil),.d (.bool b),.d (.bool b)]):=by
 obtain⟨xo,xn,xv,xm,xl,xa⟩:=pred
 rw[A0w,Ex.ds_mk]
 obtain⟨xd,hxd⟩:∃d,d=ng xl (xL xa):=⟨_,rfl⟩
 rw[<- hxd,show ng true (pL [x])=.sl [x.ds] from rfl]
 clear hxd
 obtain⟨ao,an,ak,ar,axo,axn,axv,axm,axd,adx,ady,ada,adi,a1,a2⟩:=Pl.cut x
 rw[a2] at hx
 rw[a1]
 clear a1 a2
 cases b with
 |true=>
  refine A6h.go A6 rfl ?_
  repeat' first|refine st ?_|((with_reducible apply A4);conv=>whnf)|refine⟨λ_=>?_,λ_=>?_⟩|fail
  refine A0X 1 (j8 A6 ?_)
  repeat' first|refine st ?_|((with_reducible apply A4);conv=>whnf)|refine⟨λ_=>?_,λ_=>?_⟩|fail
  all_goals rfl
 |false=>
  refine A6h.go A6 rfl ?_
  repeat' first|refine st ?_|((with_reducible apply A4);conv=>whnf)|refine⟨λ_=>?_,λ_=>?_⟩|fail
  refine A0X 2 (j8 A6 ?_)
  repeat' first|refine st ?_|((with_reducible apply A4);conv=>whnf)|refine⟨λ_=>?_,λ_=>?_⟩|fail
  refine j8 A6 ?_
  repeat' first|refine st ?_|((with_reducible apply A4);conv=>whnf)|refine⟨λ_=>?_,λ_=>?_⟩|fail
  all_goals rfl
theorem B4e(n input:Int)(pred:Ex)(x y:Pl)(b:Bool)(dx dy:D)(hx:Pure Tryz.prog A3D [x.av,.d (eI input)] (.tup [.d dx,.d (.bool b),.d (.bool b)]))(hy:b=false->Pure Tryz.prog A3D [y.av,.d (eI input)] (.tup [.d dy,.d (.bool true),.d (.bool true)])) :
  Pure Tryz.prog A3D [(R9 5 n pred [x,y]).av,.d (eI input)] (.tup [.d (if b then dx else dy),.d (.bool true),.d (.bool false)]):=by
 obtain⟨xo,xn,xv,xm,xl,xa⟩:=pred
 rw[A0w]
 obtain⟨xd,hxd⟩:∃d,d=ng xl (xL xa):=⟨_,rfl⟩
 rw[<- hxd,show ng true (pL [x,y])=.sl [x.ds,y.ds] from rfl]
 clear hxd
 obtain⟨ao,an,ak,ar,axo,axn,axv,axm,axd,adx,ady,ada,adi,a1,a2⟩:=Pl.cut x
 obtain⟨bo,bn,bk',br,bxo,bxn,bxv,bxm,bxd,bdx,bdy,bda,bdi,b1,b2⟩:=Pl.cut y
 rw[a2] at hx
 rw[a1,b1]
 rw[b2] at hy
 clear a1 a2 b1 b2
 cases b with
 |true=>
  clear hy
  refine A6h.go A6 rfl ?_
  repeat' first|refine st ?_|((with_reducible apply A4);conv=>whnf)|refine⟨λ_=>?_,λ_=>?_⟩|fail
  refine A0X 1 (j8 A6 ?_)
  repeat' first|refine st ?_|((with_reducible apply A4);conv=>whnf)|refine⟨λ_=>?_,λ_=>?_⟩|fail
  all_goals rfl
 |false=>
  have hy:=hy rfl
  refine A6h.go A6 rfl ?_
  repeat' first|refine st ?_|((with_reducible apply A4);conv=>whnf)|refine⟨λ_=>?_,λ_=>?_⟩|fail
  refine A0X 2 (j8 A6 ?_)
  repeat' first|refine st ?_|((with_reducible apply A4);conv=>whnf)|refine⟨λ_=>?_,λ_=>?_⟩|fail
  refine j8 A6 ?_
  repeat' first|refine st ?_|((with_reducible apply A4);conv=>whnf)|refine⟨λ_=>?_,λ_=>?_⟩|fail
  all_goals rfl
end Go.Proofs
end
section
namespace Go.Proofs
open Go.Bi
theorem A8a(es:List (List D))(hl:es.length<=1073741825)(hm:∀e∈es,e.length=1)(d:D)(hd:B0 d es):Pure Tryz.prog A8R [.d d] (.d d):=by
 rcases hd with ⟨rfl,rfl⟩|rfl
 all_goals refine B0Z.go A6 rfl ?_
 all_goals repeat' first|refine st ?_|((with_reducible apply A4);conv=>whnf)|refine⟨λ_=>?_,λ_=>?_⟩|fail
 all_goals (cases es<;>rfl)
theorem B43(es:List (List D))(hl:es.length<=1073741825)(hm:∀e∈es,e.length=2)(d:D)(hd:B0 d es):Pure Tryz.prog B1I [.d d] (.d d):=by
 rcases hd with ⟨rfl,rfl⟩|rfl
 all_goals refine B5n.go A6 rfl ?_
 all_goals repeat' first|refine st ?_|((with_reducible apply A4);conv=>whnf)|refine⟨λ_=>?_,λ_=>?_⟩|fail
 all_goals (cases es<;>rfl)
theorem B44(es:List (List D))(hl:es.length<=1073741825)(hm:∀e∈es,e.length=3)(d:D)(hd:B0 d es):Pure Tryz.prog C0s [.d d] (.d d):=by
 rcases hd with ⟨rfl,rfl⟩|rfl
 all_goals refine D03.go A6 rfl ?_
 all_goals repeat' first|refine st ?_|((with_reducible apply A4);conv=>whnf)|refine⟨λ_=>?_,λ_=>?_⟩|fail
 all_goals (cases es<;>rfl)
abbrev l9(o:Po):Po:=⟨o.op,o.n,o.nk,o.ki,true,o.rows,A9 0 o.pred,true,o.xs.map (A9 0),o.ny,o.keys,o.na,o.aggs⟩
theorem B4j(g:FuncId)(Φ:Pl->Pl)(o:Po)(ni:Bool)(ins:List Pl)(hb:(Pl.mk o ni ins).bk<=1073741824)(din:D)(hf:∀x∈ins,C0 Tryz.prog g [.ptr 0 0,x.av] (F4 din) (λr os=>r=(Φ x).av/\os=F4 din)) :
  C0 Tryz.prog A2i [(Pl.mk o ni ins).av,.bcl g 0] (F4 din) (λr os=>r=(Pl.mk (l9 o) true (ins.map Φ)).av/\os=F4 din):=by
 have hB:=Pl.bd hb
 have hil:=hB.il
 have hS:=A2S o.pred hB.pred 0
 have hcp:=B0I o.xs hB.xs hB.xb (ng o.nx (xL o.xs)) C7
 have hk1:=A8a (A5 o.ki) (by rw[G4];have:=hB.ki;omega) (I0 _) (ng o.nk (A5 o.ki)) C7
 have hk2:=A8a (A5 o.keys) (by rw[G4];have:=hB.keys;omega) (I0 _) (ng o.ny (A5 o.keys)) C7
 have hk3:=B43 (H4 o.aggs) (by rw[A5u];have:=hB.aggs;omega) (A70 _) (ng o.na (H4 o.aggs)) C7
 have hk4:=λ(r:Rw) (hr:r∈o.rows)=>B44 (B2 r.vs) (by rw[Q2];have:=(hB.row r hr).1;omega) (Q3 _) r.d C7
 have hrl:=hB.nr
 clear hB hb
 obtain⟨op,n,nk,ki,nr,rows,pred,nx,xs,ny,keys,na,aggs⟩:=o
 dsimp only at hS hcp hk1 hk2 hk3 hk4 hrl
 obtain⟨xo,xn,xv,xm,xl,xa⟩:=pred
 obtain⟨e2,he2⟩:∃e,e=A9 0 (.mk xo xn xv xm xl xa):=⟨_,rfl⟩
 unfold l9
 dsimp only
 rw[<- he2] at hS ⊢
 clear he2
 obtain⟨yo,yn,yv,ym,yl,ya⟩:=e2
 rw[Ex.av_mk,Ex.av_mk] at hS
 rw[Pl.av_eq _ _ _ _ _ _ _ _ _ rfl,Pl.av_eq _ _ _ _ _ _ _ _ _ rfl]
 have hdi:B0 (ng ni (pL ins)) (pL ins):=C7
 have hdr:B0 (ng nr (B6 rows)) (B6 rows):=C7
 obtain⟨dk,e1⟩:∃d,d=ng nk (A5 ki):=⟨_,rfl⟩
 obtain⟨dr,e2⟩:∃d,d=ng nr (B6 rows):=⟨_,rfl⟩
 obtain⟨dx,e3⟩:∃d,d=ng nx (xL xs):=⟨_,rfl⟩
 obtain⟨dy,e4⟩:∃d,d=ng ny (A5 keys):=⟨_,rfl⟩
 obtain⟨da,e5⟩:∃d,d=ng na (H4 aggs):=⟨_,rfl⟩
 obtain⟨di,e6⟩:∃d,d=ng ni (pL ins):=⟨_,rfl⟩
 obtain⟨dx2,e7⟩:∃d,d=ng true (xL (xs.map (A9 0))):=⟨_,rfl⟩
 obtain⟨xd,hxd⟩:∃d,d=ng xl (xL xa):=⟨_,rfl⟩
 obtain⟨yd,hyd⟩:∃d,d=ng yl (xL ya):=⟨_,rfl⟩
 rw[<- hxd,<- hyd] at hS
 rw[<- e3,<- e7] at hcp
 rw[<- e1] at hk1
 rw[<- e4] at hk2
 rw[<- e5] at hk3
 rw[<- e6] at hdi
 rw[<- e2] at hdr
 have hgoal:C0 Tryz.prog A2i [F3 op n dk dr xo xn xv xm xd dx dy da di,.bcl g 0] (F4 din) (λr os=>r=F3 op n dk (ng true (B6 rows)) yo yn yv ym yd dx2 dy da (ng true (pL (ins.map Φ)))/\os=F4 din):=by
  clear e1 e2 e3 e4 e5 e6 e7 hxd hyd
  have l1:=n7 ins
  have m1:=u7 ins
  have g1:=λi p=>@A0e ins i p
  obtain⟨es,hes⟩:∃z,z=pL ins:=⟨_,rfl⟩
  rw[<- hes] at hdi l1 m1 g1
  have l2:=W0 rows
  have m2:=X8 rows
  have g2:=λi p=>@A1d rows i p
  obtain⟨rs,hrs⟩:∃z,z=B6 rows:=⟨_,rfl⟩
  rw[<- hrs] at hdr l2 m2 g2
  have hrs2:=hrs
  clear hes hrs
  have r0:xv.k=xv.k:=rfl
  have r1:xv.s=xv.s:=rfl
  have r2:xm=xm:=rfl
  have r3:yv.s=yv.s:=rfl
  have r4:ym=ym:=rfl
  refine B0W.goX A6 rfl ?_
  repeat' first|refine st ?_|((with_reducible apply A4);conv=>whnf)|refine⟨λ_=>?_,λ_=>?_⟩|fail
  refine A2d 3 3 1 rfl rfl rfl ?_
  refine J5 A6 B8J B8D (λ(i:Nat)=>[.d (eI i)]) (λi=>[.cells [.d din],.cells [.d (eI op),.d (eI n),.d dk,.d dr,.d (eI xo),.d (eI xn),.d (eI xv.k),.d (eI xv.n),.d (.str xv.s),.d (.str xm),.d xd,.d dx,.d dy,.d da,.d di],.cells [.d (eI 0),.d (eI 0),.d .nil,.d .nil,.d (eI 0),.d (eI 0),.d (eI 0),.d (eI 0),.d (.str []),.d (.str []),.d .nil,.d .nil,.d .nil,.d .nil,.d .nil],.cells [.d (eI op),.d (eI n),.d dk,.arr 8 (B6 (rows.take i)).length,.d (eI yo),.d (eI yn),.d (eI yv.k),.d (eI yv.n),.d (.str yv.s),.d (.str ym),.d yd,.d dx2,.d dy,.d da,.d .nil],.hole,.hole,.hole,.hole,.arr (B6 (rows.take i)) 1 0 (B6 (rows.take i)).isEmpty]) (λi=>i<=rows.length) (λi=>rows.length-i) 0 rfl rfl rfl rfl (λ_ _=>⟨rfl,rfl⟩) rfl (by omega) ?_
  repeat' first|refine st ?_|((with_reducible apply A4);conv=>whnf)|refine⟨λ_=>?_,λ_=>?_⟩|fail
  intro i i1
  have hw1:(B6 (rows.take i)).length=i:=by rw[W0,L6];omega
  have hwm:=X8 (rows.take i)
  have hbd:((B6 (rows.take i)).length+1)*24<=140737488355328:=by omega
  cases hx:rows[i]? with
  |some r=>
   have hlt:=(B3.1 hx).1
   have hilt:(i:Int)<rs.length:=by omega
   have hg:rs[((i:Nat):Int).toNat]?=some [r.d]:=g2 i r hx
   have hK:=hk4 r (C3 hx)
   have ht:B6 (rows.take (i+1))=B6 (rows.take i)++[[r.d]]:=by rw[L5,hx];simp[B6]
   obtain⟨A,hA⟩:∃z,z=B6 (rows.take i):=⟨_,rfl⟩
   rw[<- hA] at hw1 hwm hbd ht ⊢
   obtain⟨rd,hrd⟩:∃d,d=r.d:=⟨_,rfl⟩
   rw[<- hrd] at hg hK ht
   clear g1 g2 hx hA hf hrd hS hcp hk1 hk2 hk3 hk4 hrs2
   repeat' first|refine st ?_|((with_reducible apply A4);conv=>whnf)|refine⟨λ_=>?_,λ_=>?_⟩|fail
   exact⟨i+1,rfl,rfl,by rw[ht];simp,by omega,by omega⟩
  |none=>
   have hge:=F2.1 hx
   have hilt:(rs.length:Int)<=i:=by omega
   rw[H0 hge,<- hrs2] at hw1 hwm hbd ⊢
   obtain⟨ww,hww⟩:∃z,z=rs:=⟨_,rfl⟩
   rw[<- hww] at hw1 hwm hbd ⊢
   clear hx hk1 hk2 hk3 hk4 hS hcp g2 hww hrs2
   repeat' first|refine st ?_|((with_reducible apply A4);conv=>whnf)|refine⟨λ_=>?_,λ_=>?_⟩|fail
   refine A2d 3 14 15 rfl rfl rfl ?_
   refine J5 A6 B1c B19 (λ(i:Nat)=>[.d (eI i)]) (λi=>[.cells [.d din],.cells [.d (eI op),.d (eI n),.d dk,.d dr,.d (eI xo),.d (eI xn),.d (eI xv.k),.d (eI xv.n),.d (.str xv.s),.d (.str xm),.d xd,.d dx,.d dy,.d da,.d di],.cells [.d (eI 0),.d (eI 0),.d .nil,.d .nil,.d (eI 0),.d (eI 0),.d (eI 0),.d (eI 0),.d (.str []),.d (.str []),.d .nil,.d .nil,.d .nil,.d .nil,.d .nil],.cells [.d (eI op),.d (eI n),.d dk,.arr 8 ww.length,.d (eI yo),.d (eI yn),.d (eI yv.k),.d (eI yv.n),.d (.str yv.s),.d (.str ym),.d yd,.d dx2,.d dy,.d da,.arr 9 (pL ((ins.take i).map Φ)).length],.hole,.hole,.hole,.hole,.arr ww 1 0 ww.isEmpty,.arr (pL ((ins.take i).map Φ)) 15 0 (pL ((ins.take i).map Φ)).isEmpty]) (λi=>i<=ins.length) (λi=>ins.length-i) 0 rfl rfl rfl rfl (λ_ _=>⟨rfl,rfl⟩) rfl (by omega) ?_
   repeat' first|refine st ?_|((with_reducible apply A4);conv=>whnf)|refine⟨λ_=>?_,λ_=>?_⟩|fail
   intro i i1
   have hv1:(pL ((ins.take i).map Φ)).length=i:=by rw[n7,D3,L6];omega
   have hvm:=u7 ((ins.take i).map Φ)
   have hbd2:((pL ((ins.take i).map Φ)).length+1)*248<=140737488355328:=by omega
   cases hx:ins[i]? with
   |some p=>
    have hlt:=(B3.1 hx).1
    have hilt:(i:Int)<es.length:=by omega
    have hg:=g1 i p hx
    have hL:=λrest=>C3G (hf p (C3 hx)) (λf=>Q9 f _) rest
    have ht:pL ((ins.take (i+1)).map Φ)=pL ((ins.take i).map Φ)++[(Φ p).ds]:=by rw[L5,hx];simp[pL]
    obtain⟨A,hA⟩:∃z,z=pL ((ins.take i).map Φ):=⟨_,rfl⟩
    rw[<- hA] at hv1 hvm hbd2 ht ⊢
    obtain⟨op',n',dk',dr',xo',xn',xv',xm',xd',dx',dy',da',di',c1,c2⟩:=Pl.cut p
    obtain⟨op1,n1,dk1,dr1,xo1,xn1,xv1,xm1,xd1,dx1,dy1,da1,di1,c3,c4⟩:=Pl.cut (Φ p)
    have hg:es[((i:Nat):Int).toNat]?=some (N9 op' n' dk' dr' xo' xn' xv' xm' xd' dx' dy' da' di'):=by rw[<- c1];exact hg
    have hL:∀rest,C0 Tryz.prog g [.ptr 0 0,F3 op' n' dk' dr' xo' xn' xv' xm' xd' dx' dy' da' di'] ([.cells [.d din]]++rest) (λr' os'=>r'=F3 op1 n1 dk1 dr1 xo1 xn1 xv1 xm1 xd1 dx1 dy1 da1 di1/\os'=[.cells [.d din]]++rest):=λrest=>by rw[<- c2,<- c4];exact hL rest
    rw[c3] at ht
    clear g1 hx hA hf c1 c2 c3 c4
    repeat' first|refine st ?_|((with_reducible apply A4);conv=>whnf)|((with_reducible first|apply O1|apply O0);(·exact hL _);(try rintro _ _ ⟨rfl,rfl⟩))|((with_reducible apply O2);(·exact hL _))|refine⟨λ_=>?_,λ_=>?_⟩|fail
    exact⟨i+1,rfl,rfl,by rw[ht];simp,by omega,by omega⟩
   |none=>
    have hge:=F2.1 hx
    have hilt:(es.length:Int)<=i:=by omega
    rw[H0 hge] at hv1 hvm hbd2 ⊢
    obtain⟨A,hA⟩:∃z,z=pL (ins.map Φ):=⟨_,rfl⟩
    rw[<- hA] at hv1 hvm hbd2 ⊢
    clear g1 hx hA hf
    repeat' first|refine st ?_|((with_reducible apply A4);conv=>whnf)|refine⟨λ_=>?_,λ_=>?_⟩|fail
    all_goals exact⟨by cases ww<;>cases A<;>rfl,rfl⟩
 rw[e1,e2,e3,e4,e5,e6,e7,hxd,hyd] at hgoal
 exact hgoal
theorem B4k(g:FuncId)(Φ:Pl->Pl)(o:Po)(ni:Bool)(ins:List Pl)(hb:(Pl.mk o ni ins).bk<=1073741824)(hf:∀x∈ins,Pure Tryz.prog g [x.av] (Φ x).av) :
  Pure Tryz.prog A2i [(Pl.mk o ni ins).av,.d (.fn g)] (Pl.mk (l9 o) true (ins.map Φ)).av:=by
 have hB:=Pl.bd hb
 have hil:=hB.il
 have hS:=A2S o.pred hB.pred 0
 have hcp:=B0I o.xs hB.xs hB.xb (ng o.nx (xL o.xs)) C7
 have hk1:=A8a (A5 o.ki) (by rw[G4];have:=hB.ki;omega) (I0 _) (ng o.nk (A5 o.ki)) C7
 have hk2:=A8a (A5 o.keys) (by rw[G4];have:=hB.keys;omega) (I0 _) (ng o.ny (A5 o.keys)) C7
 have hk3:=B43 (H4 o.aggs) (by rw[A5u];have:=hB.aggs;omega) (A70 _) (ng o.na (H4 o.aggs)) C7
 have hk4:=λ(r:Rw) (hr:r∈o.rows)=>B44 (B2 r.vs) (by rw[Q2];have:=(hB.row r hr).1;omega) (Q3 _) r.d C7
 have hrl:=hB.nr
 clear hB hb
 obtain⟨op,n,nk,ki,nr,rows,pred,nx,xs,ny,keys,na,aggs⟩:=o
 dsimp only at hS hcp hk1 hk2 hk3 hk4 hrl
 obtain⟨xo,xn,xv,xm,xl,xa⟩:=pred
 obtain⟨e2,he2⟩:∃e,e=A9 0 (.mk xo xn xv xm xl xa):=⟨_,rfl⟩
 unfold l9
 dsimp only
 rw[<- he2] at hS ⊢
 clear he2
 obtain⟨yo,yn,yv,ym,yl,ya⟩:=e2
 rw[Ex.av_mk,Ex.av_mk] at hS
 rw[Pl.av_eq _ _ _ _ _ _ _ _ _ rfl,Pl.av_eq _ _ _ _ _ _ _ _ _ rfl]
 have hdi:B0 (ng ni (pL ins)) (pL ins):=C7
 have hdr:B0 (ng nr (B6 rows)) (B6 rows):=C7
 obtain⟨dk,e1⟩:∃d,d=ng nk (A5 ki):=⟨_,rfl⟩
 obtain⟨dr,e2⟩:∃d,d=ng nr (B6 rows):=⟨_,rfl⟩
 obtain⟨dx,e3⟩:∃d,d=ng nx (xL xs):=⟨_,rfl⟩
 obtain⟨dy,e4⟩:∃d,d=ng ny (A5 keys):=⟨_,rfl⟩
 obtain⟨da,e5⟩:∃d,d=ng na (H4 aggs):=⟨_,rfl⟩
 obtain⟨di,e6⟩:∃d,d=ng ni (pL ins):=⟨_,rfl⟩
 obtain⟨dx2,e7⟩:∃d,d=ng true (xL (xs.map (A9 0))):=⟨_,rfl⟩
 obtain⟨xd,hxd⟩:∃d,d=ng xl (xL xa):=⟨_,rfl⟩
 obtain⟨yd,hyd⟩:∃d,d=ng yl (xL ya):=⟨_,rfl⟩
 rw[<- hxd,<- hyd] at hS
 rw[<- e3,<- e7] at hcp
 rw[<- e1] at hk1
 rw[<- e4] at hk2
 rw[<- e5] at hk3
 rw[<- e6] at hdi
 rw[<- e2] at hdr
 have hgoal:Bi.Pure Tryz.prog A2i [F3 op n dk dr xo xn xv xm xd dx dy da di,.d (.fn g)] (F3 op n dk (ng true (B6 rows)) yo yn yv ym yd dx2 dy da (ng true (pL (ins.map Φ)))):=by
  clear e1 e2 e3 e4 e5 e6 e7 hxd hyd
  have l1:=n7 ins
  have m1:=u7 ins
  have g1:=λi p=>@A0e ins i p
  obtain⟨es,hes⟩:∃z,z=pL ins:=⟨_,rfl⟩
  rw[<- hes] at hdi l1 m1 g1
  have l2:=W0 rows
  have m2:=X8 rows
  have g2:=λi p=>@A1d rows i p
  obtain⟨rs,hrs⟩:∃z,z=B6 rows:=⟨_,rfl⟩
  rw[<- hrs] at hdr l2 m2 g2
  have hrs2:=hrs
  clear hes hrs
  have r0:xv.k=xv.k:=rfl
  have r1:xv.s=xv.s:=rfl
  have r2:xm=xm:=rfl
  have r3:yv.s=yv.s:=rfl
  have r4:ym=ym:=rfl
  refine B0W.go A6 rfl ?_
  repeat' first|refine st ?_|((with_reducible apply A4);conv=>whnf)|refine⟨λ_=>?_,λ_=>?_⟩|fail
  refine A2d 2 3 1 rfl rfl rfl ?_
  refine J5 A6 B8J B8D (λ(i:Nat)=>[.d (eI i)]) (λi=>[.cells [.d (eI op),.d (eI n),.d dk,.d dr,.d (eI xo),.d (eI xn),.d (eI xv.k),.d (eI xv.n),.d (.str xv.s),.d (.str xm),.d xd,.d dx,.d dy,.d da,.d di],.cells [.d (eI 0),.d (eI 0),.d .nil,.d .nil,.d (eI 0),.d (eI 0),.d (eI 0),.d (eI 0),.d (.str []),.d (.str []),.d .nil,.d .nil,.d .nil,.d .nil,.d .nil],.cells [.d (eI op),.d (eI n),.d dk,.arr 7 (B6 (rows.take i)).length,.d (eI yo),.d (eI yn),.d (eI yv.k),.d (eI yv.n),.d (.str yv.s),.d (.str ym),.d yd,.d dx2,.d dy,.d da,.d .nil],.hole,.hole,.hole,.hole,.arr (B6 (rows.take i)) 1 0 (B6 (rows.take i)).isEmpty]) (λi=>i<=rows.length) (λi=>rows.length-i) 0 rfl rfl rfl rfl (λ_ _=>⟨rfl,rfl⟩) rfl (by omega) ?_
  repeat' first|refine st ?_|((with_reducible apply A4);conv=>whnf)|refine⟨λ_=>?_,λ_=>?_⟩|fail
  intro i i1
  have hw1:(B6 (rows.take i)).length=i:=by rw[W0,L6];omega
  have hwm:=X8 (rows.take i)
  have hbd:((B6 (rows.take i)).length+1)*24<=140737488355328:=by omega
  cases hx:rows[i]? with
  |some r=>
   have hlt:=(B3.1 hx).1
   have hilt:(i:Int)<rs.length:=by omega
   have hg:rs[((i:Nat):Int).toNat]?=some [r.d]:=g2 i r hx
   have hK:=hk4 r (C3 hx)
   have ht:B6 (rows.take (i+1))=B6 (rows.take i)++[[r.d]]:=by rw[L5,hx];simp[B6]
   obtain⟨A,hA⟩:∃z,z=B6 (rows.take i):=⟨_,rfl⟩
   rw[<- hA] at hw1 hwm hbd ht ⊢
   obtain⟨rd,hrd⟩:∃d,d=r.d:=⟨_,rfl⟩
   rw[<- hrd] at hg hK ht
   clear g1 g2 hx hA hf hrd hS hcp hk1 hk2 hk3 hk4 hrs2
   repeat' first|refine st ?_|((with_reducible apply A4);conv=>whnf)|refine⟨λ_=>?_,λ_=>?_⟩|fail
   exact⟨i+1,rfl,rfl,by rw[ht];simp,by omega,by omega⟩
  |none=>
   have hge:=F2.1 hx
   have hilt:(rs.length:Int)<=i:=by omega
   rw[H0 hge,<- hrs2] at hw1 hwm hbd ⊢
   obtain⟨ww,hww⟩:∃z,z=rs:=⟨_,rfl⟩
   rw[<- hww] at hw1 hwm hbd ⊢
   clear hx hk1 hk2 hk3 hk4 hS hcp g2 hww hrs2
   repeat' first|refine st ?_|((with_reducible apply A4);conv=>whnf)|refine⟨λ_=>?_,λ_=>?_⟩|fail
   refine A2d 2 14 15 rfl rfl rfl ?_
   refine J5 A6 B1c B19 (λ(i:Nat)=>[.d (eI i)]) (λi=>[.cells [.d (eI op),.d (eI n),.d dk,.d dr,.d (eI xo),.d (eI xn),.d (eI xv.k),.d (eI xv.n),.d (.str xv.s),.d (.str xm),.d xd,.d dx,.d dy,.d da,.d di],.cells [.d (eI 0),.d (eI 0),.d .nil,.d .nil,.d (eI 0),.d (eI 0),.d (eI 0),.d (eI 0),.d (.str []),.d (.str []),.d .nil,.d .nil,.d .nil,.d .nil,.d .nil],.cells [.d (eI op),.d (eI n),.d dk,.arr 7 ww.length,.d (eI yo),.d (eI yn),.d (eI yv.k),.d (eI yv.n),.d (.str yv.s),.d (.str ym),.d yd,.d dx2,.d dy,.d da,.arr 8 (pL ((ins.take i).map Φ)).length],.hole,.hole,.hole,.hole,.arr ww 1 0 ww.isEmpty,.arr (pL ((ins.take i).map Φ)) 15 0 (pL ((ins.take i).map Φ)).isEmpty]) (λi=>i<=ins.length) (λi=>ins.length-i) 0 rfl rfl rfl rfl (λ_ _=>⟨rfl,rfl⟩) rfl (by omega) ?_
   repeat' first|refine st ?_|((with_reducible apply A4);conv=>whnf)|refine⟨λ_=>?_,λ_=>?_⟩|fail
   intro i i1
   have hv1:(pL ((ins.take i).map Φ)).length=i:=by rw[n7,D3,L6];omega
   have hvm:=u7 ((ins.take i).map Φ)
   have hbd2:((pL ((ins.take i).map Φ)).length+1)*248<=140737488355328:=by omega
   cases hx:ins[i]? with
   |some p=>
    have hlt:=(B3.1 hx).1
    have hilt:(i:Int)<es.length:=by omega
    have hg:=g1 i p hx
    have hL:=hf p (C3 hx)
    have ht:pL ((ins.take (i+1)).map Φ)=pL ((ins.take i).map Φ)++[(Φ p).ds]:=by rw[L5,hx];simp[pL]
    obtain⟨A,hA⟩:∃z,z=pL ((ins.take i).map Φ):=⟨_,rfl⟩
    rw[<- hA] at hv1 hvm hbd2 ht ⊢
    obtain⟨op',n',dk',dr',xo',xn',xv',xm',xd',dx',dy',da',di',c1,c2⟩:=Pl.cut p
    obtain⟨op1,n1,dk1,dr1,xo1,xn1,xv1,xm1,xd1,dx1,dy1,da1,di1,c3,c4⟩:=Pl.cut (Φ p)
    have hg:es[((i:Nat):Int).toNat]?=some (N9 op' n' dk' dr' xo' xn' xv' xm' xd' dx' dy' da' di'):=by rw[<- c1];exact hg
    rw[c2,c4] at hL
    rw[c3] at ht
    clear g1 hx hA hf c1 c2 c3 c4
    repeat' first|refine st ?_|((with_reducible apply A4);conv=>whnf)|refine⟨λ_=>?_,λ_=>?_⟩|fail
    exact⟨i+1,rfl,rfl,by rw[ht];simp,by omega,by omega⟩
   |none=>
    have hge:=F2.1 hx
    have hilt:(es.length:Int)<=i:=by omega
    rw[H0 hge] at hv1 hvm hbd2 ⊢
    obtain⟨A,hA⟩:∃z,z=pL (ins.map Φ):=⟨_,rfl⟩
    rw[<- hA] at hv1 hvm hbd2 ⊢
    clear g1 hx hA hf
    repeat' first|refine st ?_|((with_reducible apply A4);conv=>whnf)|refine⟨λ_=>?_,λ_=>?_⟩|fail
    all_goals (cases ww<;>cases A<;>rfl)
 rw[e1,e2,e3,e4,e5,e6,e7,hxd,hyd] at hgoal
 exact hgoal
end Go.Proofs
end
section
namespace Go.Proofs
open Go.Bi
def y8(n:Int)(v:Vl)(nm:List UInt8)(k:Nat):Bool:=decide (2<=k/\n=0/\nm=[]/\v=C5)
theorem C6K(op n:Int)(v:Vl)(nm:List UInt8)(es:List (List D))(hl:es.length<=1073741825)(d:D)(hd:B0 d es):Pure Tryz.prog C0r [eX op n v nm d] (.d (.bool (y8 n v nm es.length))):=by
 obtain⟨q,hq⟩:∃q,q=y8 n v nm es.length:=⟨_,rfl⟩
 rw[<- hq]
 unfold y8 at hq
 obtain⟨vk,vn,vs⟩:=v
 by_cases h1:2<=es.length
 rotate_left
 ·rw[decide_eq_false λh=>h1 h.1] at hq
  subst hq
  have h1:(es.length:Int)<2:=by omega
  refine A8s.go A6 rfl ?_
  repeat' first|refine st ?_|((with_reducible apply A4);conv=>whnf)|refine⟨λ_=>?_,λ_=>?_⟩|fail
  all_goals first|rfl|(exfalso;omega)
 have h1':(2:Int)<=es.length:=by omega
 by_cases h2:n=0
 rotate_left
 ·rw[decide_eq_false λh=>h2 h.2.1] at hq
  subst hq
  refine A8s.go A6 rfl ?_
  repeat' first|refine st ?_|((with_reducible apply A4);conv=>whnf)|refine⟨λ_=>?_,λ_=>?_⟩|fail
  all_goals first|rfl|simp_all|(exfalso;omega)
 by_cases h3:nm=[]
 rotate_left
 ·rw[decide_eq_false λh=>h3 h.2.2.1] at hq
  subst hq
  subst h2
  refine A8s.go A6 rfl ?_
  repeat' first|refine st ?_|((with_reducible apply A4);conv=>whnf)|refine⟨λ_=>?_,λ_=>?_⟩|fail
  all_goals first|rfl|simp_all|(exfalso;omega)
 subst h2
 subst h3
 refine A8s.go A6 rfl ?_
 repeat' first|refine st ?_|((with_reducible apply A4);conv=>whnf)|refine⟨λ_=>?_,λ_=>?_⟩|fail
 all_goals (rw[hq];simp_all[C5])
abbrev stg(op:Int):Vl:=T4 (decide (op=6))
abbrev wek(op:Int):Vl:=T4 (decide (op=5))
abbrev Ex.op:Ex->Int
 |.mk op _ _ _ _ _=>op
abbrev Ex.vl:Ex->Vl
 |.mk _ _ v _ _ _=>v
def N7(op:Int):List Ex->List Ex
 |[]=>[]
 |x::r=>if x.op≠1\/x.vl≠wek op then x::N7 op r else N7 op r
def cnS(op:Int)(l:List Ex):Bool:=l.any λx=>decide (x.op=1/\x.vl=stg op)
def cnX(op n:Int)(v:Vl)(nm:List UInt8)(args:List Ex):Ex:=
 if cnS op args then A2q (stg op) else if 2<=(N7 op args).length then .mk op n v nm true (N7 op args) else .mk op n v nm true args
theorem D7I(op:Int)(l:List Ex)(x:Ex):N7 op (l++[x])=N7 op l++(if x.op≠1\/x.vl≠wek op then [x] else []):=by
 induction l with
 |nil=>simp only[A0J,N7]
 |cons a l ih=>
  rw[A4r,N7,N7,ih]
  split<;>simp
theorem C24(op:Int):∀l:List Ex,(N7 op l).length<=l.length
 |[]=>D4 _
 |x::r=>by
  have:=C24 op r
  rw[N7]
  split<;>simp only[H7]<;>omega
theorem C6J(op n:Int)(v:Vl)(nm:List UInt8)(args:List Ex)(hop:op=5\/op=6)(hl:args.length<=1073741824) :
  Pure Tryz.prog C0q [(Ex.mk op n v nm true args).av] (cnX op n v nm args).av:=by
 have hB1:=A3z (decide (op=6))
 have hB2:=A3z (decide (op=5))
 have hK:=B0K (stg op)
 rw[Ex.av_mk]
 have hd:B0 (ng true (xL args)) (xL args):=C7
 obtain⟨d,hdd⟩:∃d,d=ng true (xL args):=⟨_,rfl⟩
 have lA:=N1 args
 have mA':=O6 args
 have gA:=λi x=>@b9 args i x
 have hxv:∀(i:Nat) (x:Ex),args[i]?=some x->(cnS op (args.take i)=false)->(cnS op (args.take (i+1))=decide (x.op=1/\x.vl=stg op)):=λi x h h2=>by
  unfold cnS at h2 ⊢
  rw[L5,h,List.any_append,h2];simp
 have hsd:∀(i:Nat) (x:Ex),args[i]?=some x->decide (x.op=1/\x.vl=stg op)=true->cnS op args=true:=λi x h h2=>List.any_eq_true.2 ⟨x,C3 h,h2⟩
 obtain⟨q,hq⟩:∃q,q=(cnX op n v nm args).av:=⟨_,rfl⟩
 rw[<- hq]
 unfold cnX at hq
 rw[<- hdd] at hd ⊢
 obtain⟨s1,hs1⟩:∃s,s=stg op:=⟨_,rfl⟩
 obtain⟨s2,hs2⟩:∃s,s=wek op:=⟨_,rfl⟩
 have hB1:Bi.Pure Tryz.prog A2Z [.d (.bool (decide (op=6)))] (eV s1):=by rw[hs1];exact hB1
 have hB2:Bi.Pure Tryz.prog A2Z [.d (.bool (decide (op=5)))] (eV s2):=by rw[hs2];exact hB2
 rw[<- hs1] at hK
 have hsd:∀(i:Nat) (x:Ex),args[i]?=some x->x.op=1->x.vl=s1->cnS op args=true:=λi x h h2 h3=>hsd i x h (decide_eq_true ⟨h2,by rw[h3,hs1]⟩)
 obtain⟨es,hes⟩:∃z,z=xL args:=⟨_,rfl⟩
 rw[<- hes] at hd lA mA' gA
 clear hes
 have r0:v.k=v.k:=rfl
 have r1:v.s=v.s:=rfl
 have r2:nm=nm:=rfl
 have r3:s1.s=s1.s:=rfl
 have r4:s2.s=s2.s:=rfl
 have hbo:decide (op=6)=decide (op=6):=rfl
 refine D01.go A6 rfl ?_
 repeat' first|refine st ?_|((with_reducible apply A4);conv=>whnf)|refine⟨λ_=>?_,λ_=>?_⟩|fail
 refine T5 5 7 rfl rfl ?_
 refine J5 A6 D3f D1U (λ(i:Nat)=>[.arr 4 (xL (N7 op (args.take i))).length,.d (eI i)]) (λi=>[.cells [.d (eI op),.d (eI n),.d (eI v.k),.d (eI v.n),.d (.str v.s),.d (.str nm),.d d],.cells [.d (eI 0),.d (eI 0),.d (eI 0),.d (eI 0),.d (.str []),.d (.str []),.d .nil],.cells [.d (eI s1.k),.d (eI s1.n),.d (.str s1.s)],.cells [.d (eI s2.k),.d (eI s2.n),.d (.str s2.s)],.arr (xL (N7 op (args.take i))) 7 0 (xL (N7 op (args.take i))).isEmpty]) (λi=>i<=args.length/\cnS op (args.take i)=false) (λi=>args.length-i) 0 rfl rfl rfl rfl (λ_ _=>⟨rfl,rfl⟩) rfl ⟨by omega,rfl⟩ ?_
 repeat' first|refine st ?_|((with_reducible apply A4);conv=>whnf)|refine⟨λ_=>?_,λ_=>?_⟩|fail
 intro i ⟨i1,i2⟩
 have hwl:(xL (N7 op (args.take i))).length<=i:=by rw[N1];have:=C24 op (args.take i);rw[L6] at this;omega
 have hwm:=O6 (N7 op (args.take i))
 have hbd:((xL (N7 op (args.take i))).length+1)*88<=140737488355328:=by omega
 cases hx:args[i]? with
 |some x=>
  have hlt:=(B3.1 hx).1
  have hilt:(i:Int)<es.length:=by omega
  have hg:=gA i x hx
  have hn:=hxv i x hx i2
  have hsd:=hsd i x hx
  have ht:N7 op (args.take (i+1))=N7 op (args.take i)++(if x.op≠1\/x.vl≠wek op then [x] else []):=by rw[L5,hx];exact D7I ..
  rw[<- hs1] at hn
  rw[<- hs2] at ht
  obtain⟨x1,x2,⟨vk,vn,vs⟩,x4,x5,x6⟩:=x
  dsimp only[Ex.op,Ex.vl] at hn ht hsd
  rw[Ex.ds_mk] at hg
  obtain⟨z1,hz1⟩:∃z,z=ng x5 (xL x6):=⟨_,rfl⟩
  have hg:es[((i:Nat):Int).toNat]?=some (U3 x1 x2 ⟨vk,vn,vs⟩ x4 z1):=by rw[hz1];exact hg
  have hap:xL (N7 op (args.take i)++[.mk x1 x2 ⟨vk,vn,vs⟩ x4 x5 x6])=xL (N7 op (args.take i))++[U3 x1 x2 ⟨vk,vn,vs⟩ x4 z1]:=by rw[hz1];simp[xL,Ex.ds_mk]
  obtain⟨A,hA⟩:∃z,z=xL (N7 op (args.take i)):=⟨_,rfl⟩
  rw[<- hA] at hwl hwm hbd hap ⊢
  by_cases h1:x1=1
  ·by_cases h2:(⟨vk,vn,vs⟩:Vl)=s1
   ·have hS:=hsd h1 h2
    rw[hS,if_pos rfl,Ex.av_mk] at hq
    rw[<- hs1] at hq
    subst hq
    subst h1
    obtain⟨rfl,rfl,rfl⟩:vk=s1.k/\vn=s1.n/\vs=s1.s:=by rw[<- h2];exact⟨rfl,rfl,rfl⟩
    clear gA hx hxv hsd ht hap hA hz1 hn h2 hB1 hB2
    repeat' first|refine st ?_|((with_reducible apply A4);conv=>whnf)|refine⟨λ_=>?_,λ_=>?_⟩|fail
    all_goals first|rfl|(exfalso;simp_all;done)
   ·have hne:¬(vk=s1.k/\vn=s1.n/\vs=s1.s):=λh=>h2 (by rw[h.1,h.2.1,h.2.2])
    rw[decide_eq_false λh=>h2 h.2] at hn
    subst h1
    by_cases h3:(⟨vk,vn,vs⟩:Vl)=s2
    ·rw[if_neg (by simp[h3])] at ht
     rw[W2] at ht
     obtain⟨rfl,rfl,rfl⟩:vk=s2.k/\vn=s2.n/\vs=s2.s:=by rw[<- h3];exact⟨rfl,rfl,rfl⟩
     clear gA hx hxv hsd hap hz1 h2 hB1 hB2 hK hq
     repeat' first|refine st ?_|((with_reducible apply A4);conv=>whnf)|refine⟨λ_=>?_,λ_=>?_⟩|fail
     all_goals first|(exfalso;simp_all;done)|exact⟨i+1,by rw[ht,<- hA]<;>rfl,rfl,by rw[ht,<- hA]<;>rfl,by omega,by omega,hn⟩
    ·have hne2:¬(vk=s2.k/\vn=s2.n/\vs=s2.s):=λh=>h3 (by rw[h.1,h.2.1,h.2.2])
     rw[if_pos (.inr h3)] at ht
     clear gA hx hxv hsd hz1 h2 h3 hB1 hB2 hK hq
     repeat' first|refine st ?_|((with_reducible apply A4);conv=>whnf)|refine⟨λ_=>?_,λ_=>?_⟩|fail
     all_goals first|(exfalso;simp_all;done)|exact⟨i+1,by rw[ht,hap];simp,rfl,by rw[ht,hap];simp,by omega,by omega,hn⟩
  ·rw[decide_eq_false λh=>h1 h.1] at hn
   rw[if_pos (.inl h1)] at ht
   clear gA hx hxv hsd hz1 hB1 hB2 hK hq
   repeat' first|refine st ?_|((with_reducible apply A4);conv=>whnf)|refine⟨λ_=>?_,λ_=>?_⟩|fail
   all_goals first|(exfalso;simp_all;done)|exact⟨i+1,by rw[ht,hap];simp,rfl,by rw[ht,hap];simp,by omega,by omega,hn⟩
 |none=>
  have hge:=F2.1 hx
  have hilt:(es.length:Int)<=i:=by omega
  rw[H0 hge] at i2 hwl hwm hbd ⊢
  rw[i2,if_neg (by simp)] at hq
  have hal:=N1 (N7 op args)
  obtain⟨A,hA⟩:∃z,z=xL (N7 op args):=⟨_,rfl⟩
  rw[<- hA] at hwl hwm hbd hal ⊢
  clear gA hx hxv hsd hB1 hB2 hK
  by_cases h2:2<=(N7 op args).length
  ·rw[if_pos h2,Ex.av_mk,<- hA] at hq
   have hne:ng true A=.sl A:=by
    cases A with
    |nil=>simp at hal;omega
    |cons a r=>rfl
   rw[hne] at hq
   have h3:(2:Int)<=A.length:=by omega
   subst hq
   repeat' first|refine st ?_|((with_reducible apply A4);conv=>whnf)|refine⟨λ_=>?_,λ_=>?_⟩|fail
   all_goals first|rfl|(cases A<;>first|rfl|(simp at h3;done))
  ·rw[if_neg h2,Ex.av_mk,<- hdd] at hq
   have h3:(A.length:Int)<2:=by omega
   subst hq
   repeat' first|refine st ?_|((with_reducible apply A4);conv=>whnf)|refine⟨λ_=>?_,λ_=>?_⟩|fail
   all_goals first|rfl|(exfalso;omega)
end Go.Proofs
end
section
namespace Go.Proofs
open Go.Bi
def smF(op n:Int)(v:Vl)(nm:List UInt8)(l:List Ex):Ex:=
 if (op=5\/op=6)/\y8 n v nm l.length=true then cnX op n v nm l else .mk op n v nm true l
mutual
/-- A predicate, simplified. -/
def J1:Ex->Ex
 |.mk op n v nm nl args=>if K5 (.mk op n v nm nl args)=[] then A2q (ev [] (.mk op n v nm nl args)) else smF op n v nm (A7X args)
def A7X:List Ex->List Ex
 |[]=>[]
 |e::r=>J1 e::A7X r
end
theorem C4Z:∀l,A7X l=l.map J1
 |[]=>by simp[A7X]
 |e::r=>by simp[A7X,C4Z r]
theorem A5U(op n:Int)(v:Vl)(nm:List UInt8)(nl:Bool)(args:List Ex):J1 (.mk op n v nm nl args)=if K5 (.mk op n v nm nl args)=[] then A2q (ev [] (.mk op n v nm nl args)) else smF op n v nm (args.map J1):=by rw[J1,C4Z]
theorem D7W(e:Ex):∃es:List (List D),B0 (A1c e) es/\(es.length=0↔K5 e=[])/\es.length<=e.bk:=by
 by_cases h:K5 e=[]
 ·refine⟨[],.inl ⟨?_,rfl⟩,by simp[h],K1 _⟩
  unfold A1c;rw[h];rfl
 ·refine⟨A5 (U8 e),.inr ?_,?_,by rw[G4];exact B2b e⟩
  ·unfold A1c
   rw[if_neg]
   cases hr:K5 e with
   |nil=>exact absurd hr h
   |cons a r=>simp[A5]
  ·rw[G4]
   constructor
   ·intro h2
    have h3:=A0H.1 h2
    cases hr:K5 e with
    |nil=>rfl
    |cons a r=>
     have:=(A9c e a).2 (by rw[hr];simp)
     rw[h3] at this;cases this
   ·intro h2;exact absurd h2 h
theorem C6I:∀e:Ex,e.bk<=1073741824->Pure Tryz.prog B1G [e.av] (J1 e).av:=by
 refine Ex.ind λop n v nm nl args ih hbk=>?_
 obtain⟨b1,b2,b3,b4⟩:=Ex.bk_bounds hbk
 have hC:=B0C (.mk op n v nm nl args) hbk
 have hE:=C6l [] (by simp) (by simp) .nil (.inl ⟨rfl,rfl⟩) (.mk op n v nm nl args) hbk
 have hK:=B0K (ev [] (.mk op n v nm nl args))
 obtain⟨cs,hcs,hc0,hcl⟩:=D7W (.mk op n v nm nl args)
 have hcl:cs.length<=1073741824:=J2 hcl hbk
 have ih':∀a∈args,Pure Tryz.prog B1G [a.av] (J1 a).av:=λa ha=>ih a ha (b4 a ha)
 clear ih
 obtain⟨q,hq⟩:∃q,q=J1 (.mk op n v nm nl args):=⟨_,rfl⟩
 rw[<- hq]
 rw[A5U] at hq
 obtain⟨cd,hcd⟩:∃d,d=A1c (.mk op n v nm nl args):=⟨_,rfl⟩
 rw[<- hcd] at hC hcs
 obtain⟨w,hw⟩:∃w,w=ev [] (.mk op n v nm nl args):=⟨_,rfl⟩
 rw[<- hw] at hE hK hq
 clear hcd hw hbk
 by_cases h0:K5 (.mk op n v nm nl args)=[]
 ·rw[if_pos h0] at hq
  have h1:(cs.length:Int)=0:=by have:=hc0.2 h0;omega
  clear hc0 h0
  subst hq
  rw[Ex.av_mk] at hC hE ⊢
  rw[Ex.av_mk]
  obtain⟨d,hdd⟩:∃d,d=ng nl (xL args):=⟨_,rfl⟩
  rw[<- hdd] at hC hE ⊢
  have r0:v.k=v.k:=rfl
  have r1:v.s=v.s:=rfl
  have r2:nm=nm:=rfl
  have r3:w.s=w.s:=rfl
  clear hdd ih'
  refine B5k.go A6 rfl ?_
  repeat' first|refine st ?_|((with_reducible apply A4);conv=>whnf)|refine⟨λ_=>?_,λ_=>?_⟩|fail
  all_goals rfl
 rw[if_neg h0] at hq
 have h1:¬(cs.length:Int)=0:=λh=>h0 (hc0.1 (by omega))
 clear hc0 h0 hE hK
 have hPl:=λ(es:List (List D)) (h:es.length<=1073741825) d hd=>C6K op n v nm es h d hd
 have hCn:=λh1=>C6J op n v nm (args.map J1) h1 (by rw[D3];exact b1)
 rw[Ex.av_mk] at hC ⊢
 have hd:B0 (ng nl (xL args)) (xL args):=C7
 obtain⟨d,hdd⟩:∃d,d=ng nl (xL args):=⟨_,rfl⟩
 rw[<- hdd] at hC hd ⊢
 clear hdd
 have lA:=N1 args
 have mA':=O6 args
 have gA:=λi x=>@b9 args i x
 obtain⟨es,hes⟩:∃z,z=xL args:=⟨_,rfl⟩
 rw[<- hes] at hd lA mA' gA
 clear hes
 have r0:v.k=v.k:=rfl
 have r1:v.s=v.s:=rfl
 have r2:nm=nm:=rfl
 refine B5k.go A6 rfl ?_
 repeat' first|refine st ?_|((with_reducible apply A4);conv=>whnf)|refine⟨λ_=>?_,λ_=>?_⟩|fail
 refine T5 3 7 rfl rfl ?_
 refine J5 A6 D3e D1T (λ(i:Nat)=>[.arr 2 (xL ((args.take i).map J1)).length,.d (eI i)]) (λi=>[.cells [.d (eI op),.d (eI n),.d (eI v.k),.d (eI v.n),.d (.str v.s),.d (.str nm),.d d],.cells [.d (eI 0),.d (eI 0),.d (eI 0),.d (eI 0),.d (.str []),.d (.str []),.d .nil],.arr (xL ((args.take i).map J1)) 7 0 (xL ((args.take i).map J1)).isEmpty]) (λi=>i<=args.length) (λi=>args.length-i) 0 rfl rfl rfl rfl (λ_ _=>⟨rfl,rfl⟩) rfl (by omega) ?_
 repeat' first|refine st ?_|((with_reducible apply A4);conv=>whnf)|refine⟨λ_=>?_,λ_=>?_⟩|fail
 intro i i1
 have hw1:(xL ((args.take i).map J1)).length=i:=by rw[N1,D3,L6];omega
 have hwm:=O6 ((args.take i).map J1)
 have hbd:((xL ((args.take i).map J1)).length+1)*88<=140737488355328:=by omega
 cases hx:args[i]? with
 |some x=>
  have hlt:=(B3.1 hx).1
  have hilt:(i:Int)<es.length:=by omega
  have hg:=gA i x hx
  have hS:=ih' x (C3 hx)
  have ht:xL ((args.take (i+1)).map J1)=xL ((args.take i).map J1)++[(J1 x).ds]:=by rw[L5,hx];simp[xL]
  obtain⟨A,hA'⟩:∃z,z=xL ((args.take i).map J1):=⟨_,rfl⟩
  rw[<- hA'] at hw1 hwm hbd ht ⊢
  obtain⟨y,hy⟩:∃y,y=J1 x:=⟨_,rfl⟩
  rw[<- hy] at hS ht
  clear hy gA hx hA' ih' hPl hCn hC hq
  obtain⟨x1,x2,x3,x4,x5,x6⟩:=x
  obtain⟨y1,y2,y3,y4,y5,y6⟩:=y
  rw[Ex.av_mk,Ex.av_mk] at hS
  rw[Ex.ds_mk] at hg ht
  obtain⟨z1,hz1⟩:∃d,d=ng x5 (xL x6):=⟨_,rfl⟩
  obtain⟨z2,hz2⟩:∃d,d=ng y5 (xL y6):=⟨_,rfl⟩
  have hg:es[((i:Nat):Int).toNat]?=some (U3 x1 x2 x3 x4 z1):=by rw[hz1];exact hg
  rw[<- hz1,<- hz2] at hS
  rw[<- hz2] at ht
  clear hz1 hz2
  have q0:x3.s=x3.s:=rfl
  have q1:x4=x4:=rfl
  have q2:y3.s=y3.s:=rfl
  have q3:y4=y4:=rfl
  repeat' first|refine st ?_|((with_reducible apply A4);conv=>whnf)|refine⟨λ_=>?_,λ_=>?_⟩|fail
  exact⟨i+1,by rw[ht];simp,rfl,by rw[ht];simp,by omega,by omega⟩
 |none=>
  have hge:=F2.1 hx
  have hilt:(es.length:Int)<=i:=by omega
  rw[H0 hge] at hw1 hwm hbd ⊢
  have hcd2:∀l:List (List D),ng true l=w7 l.isEmpty .nil (.sl l):=λl=>by cases l<;>rfl
  have hl2:(xL (args.map J1)).length=(args.map J1).length:=N1 _
  have hP2:=hPl (xL (args.map J1)) (by rw[hl2,D3];omega) (ng true (xL (args.map J1))) C7
  unfold smF at hq
  rw[hl2] at hP2
  rw[hcd2] at hP2
  obtain⟨l,hl⟩:∃l,l=args.map J1:=⟨_,rfl⟩
  rw[<- hl] at hCn hP2 hq hw1 hwm hbd ⊢
  obtain⟨pb,hpb⟩:∃b,b=y8 n v nm l.length:=⟨_,rfl⟩
  rw[<- hpb] at hP2 hq
  rw[Ex.av_mk,hcd2] at hCn
  by_cases h5:op=5\/op=6
  ·have hCn:=hCn h5
   cases pb with
   |true=>
    rw[if_pos ⟨h5,rfl⟩] at hq
    subst hq
    obtain⟨z,hz⟩:∃z,z=cnX op n v nm l:=⟨_,rfl⟩
    rw[<- hz] at hCn ⊢
    obtain⟨A,hA⟩:∃z,z=xL l:=⟨_,rfl⟩
    rw[<- hA] at hw1 hwm hbd hP2 hCn ⊢
    clear gA hx ih' hPl hC hz hl hpb hcd2 hl2
    obtain⟨y1,y2,y3,y4,y5,y6⟩:=z
    rw[Ex.av_mk] at hCn ⊢
    have q2:y3.s=y3.s:=rfl
    have q3:y4=y4:=rfl
    rcases h5 with rfl|rfl
    all_goals skip
    all_goals repeat' first|refine st ?_|((with_reducible apply A4);conv=>whnf)|refine⟨λ_=>?_,λ_=>?_⟩|fail
    all_goals rfl
   |false=>
    rw[if_neg (λh=>by cases h.2)] at hq
    subst hq
    rw[Ex.av_mk]
    obtain⟨A,hA⟩:∃z,z=xL l:=⟨_,rfl⟩
    rw[<- hA] at hw1 hwm hbd hP2 ⊢
    clear gA hx ih' hPl hC hl hpb hcd2 hl2 hCn
    rcases h5 with rfl|rfl
    all_goals skip
    all_goals repeat' first|refine st ?_|((with_reducible apply A4);conv=>whnf)|refine⟨λ_=>?_,λ_=>?_⟩|fail
    all_goals (cases A<;>rfl)
  ·rw[if_neg (λh=>h5 h.1)] at hq
   subst hq
   rw[Ex.av_mk]
   obtain⟨A,hA⟩:∃z,z=xL l:=⟨_,rfl⟩
   rw[<- hA] at hw1 hwm hbd ⊢
   have h6:¬op=5:=λh=>h5 (.inl h)
   have h7:¬op=6:=λh=>h5 (.inr h)
   clear gA hx ih' hPl hC hl hpb hcd2 hl2 hCn hP2
   repeat' first|refine st ?_|((with_reducible apply A4);conv=>whnf)|refine⟨λ_=>?_,λ_=>?_⟩|fail
   all_goals first|(cases A<;>rfl)|(exfalso;simp_all;done)
end Go.Proofs
end
section
namespace Go.Proofs
open Go.Bi
theorem B2n{op n n':Int}{v:Vl}{l row row':List Vl}(h1:op=2->b7 row n=b7 row' n')(h2:op≠2->n=n'):T8 op n v l row=T8 op n' v l row':=by
 by_cases h0:op=2
 ·subst h0
  exact h1 rfl
 ·rw[h2 h0]
  unfold T8
  repeat' split
  all_goals first|rfl|(exfalso;omega)
theorem C2H{row row':List Vl}:∀e:Ex,(∀c∈K5 e,b7 row c=b7 row' c)->ev row e=ev row' e:=by
 refine Ex.ind λop n v nm nl args ih h=>?_
 rw[A4S] at h
 rw[m7,m7]
 have ha:args.map (ev row)=args.map (ev row'):=P3 λa ha=>ih a ha λc hc=>h c (A8x _ (A0I.2 ⟨a,ha,hc⟩))
 rw[ha,B2n (n':=n) (row':=row') (λe=>h n (by rw[if_pos e];simp)) (λ_=>rfl)]
theorem A4B{ks:List Int}{op n:Int}{v:Vl}{nm:List UInt8}{nl:Bool}{args:List Ex}(h:(F5 ks (.mk op n v nm nl args)).2=0) :
  J7 op n v nm args.length=true/\(op≠2->(∀a∈args,(F5 ks a).2=0)/\(N0 op v (args.map λa=>(F5 ks a).1)).2=true/\(F5 ks (.mk op n v nm nl args)).1=(N0 op v (args.map λa=>(F5 ks a).1)).1)/\(op=2->0<=n/\n<ks.length/\args=[]):=by
 rw[A0a] at h ⊢
 have h0:=h
 unfold X4 at h
 split at h
 ·cases h
 split at h
 ·cases h
 rename_i h1 h2
 have hf:J7 op n v nm args.length=true:=by simpa using h2
 refine⟨hf,λh3=>?_,λh3=>?_⟩
 ·rw[A39 hf h3] at h0 ⊢
  by_cases h4:fe (args.map (F5 ks))=0
  ·rw[if_pos h4] at h0 ⊢
   rw[W3] at h0 ⊢
   have e:(Prod.fst ∘ F5 ks)=λa=>(F5 ks a).1:=rfl
   rw[e] at h0 ⊢
   cases h5:(N0 op v (args.map λa=>(F5 ks a).1)).2 with
   |false=>rw[h5] at h0;cases h0
   |true=>exact⟨λa ha=>B2r h4 _ (D9.2 ⟨a,ha,rfl⟩),rfl,by rw[if_pos rfl]⟩
  ·rw[if_neg h4] at h0;exact absurd h0 h4
 ·subst h3
  rw[if_pos rfl] at h
  split at h
  ·rename_i h4
   refine⟨h4.1,h4.2,?_⟩
   have h5:=A41 hf
   have h6:decide ((args.length:Int)=0)=true:=h5
   have h7:=of_decide_eq_true h6
   exact A0H.1 (by omega)
  ·cases h
def Le0(a b:Int):Prop:=a=b\/a=0
inductive LeL:List Int->List Int->Prop
 |nil:LeL [] []
 |cons {a b:Int} {l m:List Int} (h:Le0 a b) (t:LeL l m):LeL (a::l) (b::m)
theorem LeL.allK{l m:List Int}{c:Int}(h:LeL l m)(hm:allK m c=true):allK l c=true:=by
 induction h with
 |nil=>rfl
 |@cons a b l m h t ih=>
  simp only[Go.Proofs.allK,A1B,J9,decide_eq_true_eq] at hm ih ⊢
  refine⟨?_,ih hm.2⟩
  rcases h with rfl|rfl
  ·exact hm.1
  ·exact .inr rfl
theorem A62:∀{l m:List Int},LeL l m->∀{j k:Int},Le0 j k->(b5 k m).2=true->(b5 j l).2=true/\Le0 (b5 j l).1 (b5 k m).1
 |_,_,.nil,j,k,hjk,_=>⟨rfl,hjk⟩
 |_,_,.cons (a:=a) (b:=b) (l:=l) (m:=m) h t,j,k,hjk,hm=>by
  unfold b5 at hm ⊢
  by_cases hb:b=0
  ·have ha:a=0:=by rcases h with h|h<;>omega
   rw[if_pos hb] at hm ⊢
   rw[if_pos ha]
   exact A62 t hjk hm
  ·rw[if_neg hb] at hm ⊢
   by_cases hk:k≠0/\k≠b
   ·rw[if_pos hk] at hm;cases hm
   ·rw[if_neg hk] at hm ⊢
    by_cases ha:a=0
    ·rw[if_pos ha]
     refine A62 t ?_ hm
     rcases hjk with h1|h1
     ·by_cases hk0:k=0
      ·exact .inr (by omega)
      ·exact .inl (by omega)
     ·exact .inr h1
    ·rw[if_neg ha]
     have hab:a=b:=by rcases h with h|h;exact h;exact absurd h ha
     have hj:¬(j≠0/\j≠a):=by
      rintro⟨h1,h2⟩
      rcases hjk with h3|h3
      ·exact hk ⟨by omega,by omega⟩
      ·exact h1 h3
     rw[if_neg hj]
     exact A62 t (.inl hab) hm
theorem LeL.drop{l m:List Int}(h:LeL l m):LeL (l.drop 1) (m.drop 1):=by
 cases h with
 |nil=>exact .nil
 |cons _ t=>exact t
theorem LeL.take{l m:List Int}(h:LeL l m):LeL (l.take 1) (m.take 1):=by
 cases h with
 |nil=>exact .nil
 |cons h _=>exact .cons h .nil
theorem E1y{op:Int}{v:Vl}{l m:List Int}(h:LeL l m)(hm:(N0 op v m).2=true):(N0 op v l).2=true/\Le0 (N0 op v l).1 (N0 op v m).1:=by
 unfold N0 at hm ⊢
 by_cases c1:op=1
 ·rw[if_pos c1] at hm ⊢;rw[if_pos c1];exact⟨rfl,.inl rfl⟩
 rw[if_neg c1] at hm ⊢;rw[if_neg c1]
 by_cases c2:op=4\/op=5\/op=6
 ·rw[if_pos c2] at hm ⊢;rw[if_pos c2];exact⟨h.allK hm,.inl rfl⟩
 rw[if_neg c2] at hm ⊢;rw[if_neg c2]
 by_cases c3:op=7\/op=8\/op=9\/op=10\/op=11\/op=12
 ·rw[if_pos c3] at hm ⊢;rw[if_pos c3];exact⟨(A62 h (.inl rfl) hm).1,.inl rfl⟩
 rw[if_neg c3] at hm ⊢;rw[if_neg c3]
 by_cases c4:op=19
 ·rw[if_pos c4] at hm ⊢;rw[if_pos c4];exact⟨h.allK hm,.inl rfl⟩
 rw[if_neg c4] at hm ⊢;rw[if_neg c4]
 by_cases c5:op=20
 ·rw[if_pos c5] at hm ⊢;rw[if_pos c5];exact⟨h.allK hm,.inl rfl⟩
 rw[if_neg c5] at hm ⊢;rw[if_neg c5]
 by_cases c6:op=21
 ·rw[if_pos c6] at hm ⊢;rw[if_pos c6];exact⟨rfl,.inl rfl⟩
 rw[if_neg c6] at hm ⊢;rw[if_neg c6]
 by_cases c7:op=22
 ·rw[if_pos c7] at hm ⊢;rw[if_pos c7]
  simp only[J9] at hm ⊢
  have h1:=A62 h.drop (.inl rfl) hm.1
  exact⟨⟨h1.1,h.take.allK hm.2⟩,h1.2⟩
 rw[if_neg c7] at hm ⊢;rw[if_neg c7]
 by_cases c8:op=23
 ·rw[if_pos c8] at hm ⊢;rw[if_pos c8];exact A62 h (.inl rfl) hm
 rw[if_neg c8] at hm ⊢;rw[if_neg c8]
 by_cases c9:op=24
 ·rw[if_pos c9] at hm ⊢;rw[if_pos c9];exact⟨h.allK hm,.inl rfl⟩
 rw[if_neg c9] at hm ⊢;rw[if_neg c9];exact⟨h.allK hm,.inl rfl⟩
def j0(t:Int):Prop:=t=0\/t=1\/t=2
abbrev un(op:Int):Int:=if op=5 then 2 else 0
abbrev st'(op:Int):Int:=if op=5 then 0 else 2
theorem B0p(v:Vl):j0 (L8 v):=by
 unfold L8 j0
 repeat' split
 all_goals omega
theorem D9X{op:Int}(hop:op=5\/op=6){t:Int}(ht:j0 t){v:Vl}(hv:L8 v=un op):U9 op t v=t:=by
 unfold U9
 rw[hv]
 rcases hop with rfl|rfl<;>rcases ht with rfl|rfl|rfl<;>decide
theorem D9Y{op:Int}(hop:op=5\/op=6)(v:Vl):U9 op (un op) v=L8 v:=by
 unfold U9
 have:=B0p v
 unfold j0 at this
 rcases hop with rfl|rfl<;>rcases this with h|h|h<;>rw[h]<;>decide
theorem D9V{op:Int}(hop:op=5\/op=6){t:Int}(ht:j0 t){v:Vl}(hv:L8 v=st' op):U9 op t v=st' op:=by
 unfold U9
 rw[hv]
 rcases hop with rfl|rfl<;>rcases ht with rfl|rfl|rfl<;>decide
theorem D9W{op:Int}(hop:op=5\/op=6)(v:Vl):U9 op (st' op) v=st' op:=by
 unfold U9
 have:=B0p v
 unfold j0 at this
 rcases hop with rfl|rfl<;>rcases this with h|h|h<;>rw[h]<;>decide
theorem A9D{op:Int}(hop:op=5\/op=6){t:Int}(ht:j0 t)(v:Vl):j0 (U9 op t v):=by
 unfold U9
 have:=B0p v
 unfold j0 at this ⊢
 rcases hop with rfl|rfl<;>rcases ht with rfl|rfl|rfl<;>rcases this with h|h|h<;>rw[h]<;>decide
theorem C3b{op:Int}(hop:op=5\/op=6):∀(l:List Vl){t:Int},j0 t->j0 (l.foldl (U9 op) t)
 |[],_,h=>h
 |v::l,_,h=>C3b hop l (A9D hop h v)
theorem C3c{op:Int}(hop:op=5\/op=6):∀l:List Vl,l.foldl (U9 op) (st' op)=st' op
 |[]=>rfl
 |v::l=>by rw[A11,D9W hop,C3c hop l]
theorem C3d{op:Int}(hop:op=5\/op=6):∀(l:List Vl){t:Int},j0 t->(∃v∈l,L8 v=st' op)->l.foldl (U9 op) t=st' op
 |[],_,_,⟨v,hv,_⟩=>by cases hv
 |a::l,t,ht,⟨v,hv,h⟩=>by
  rw[A11]
  rcases I2.1 hv with rfl|hv
  ·rw[D9V hop ht h,C3c hop]
  ·exact C3d hop l (A9D hop ht a) ⟨v,hv,h⟩
def wfC(x:Ex):Prop:=x.op=1->x=A2q x.vl/\N5 x.vl=true
theorem A9l(r:B4){w:Vl}(h:N5 w=true):ev r (A2q w)=w:=by
 rw[m7]
 have:J7 1 0 w [] ([]:List Ex).length=true:=by
  rw[A9t 0 w _ (by decide),h];rfl
 rw[this]
 rfl
theorem B0q(op:Int)(hop:op=5\/op=6):L8 (wek op)=un op/\L8 (stg op)=st' op/\O9 (st' op)=stg op/\N5 (wek op)=true/\N5 (stg op)=true:=by
 rcases hop with rfl|rfl<;>decide
theorem C3a{op:Int}(hop:op=5\/op=6)(r:B4):∀(l:List Ex){t:Int},j0 t->(∀x∈l,wfC x)->((N7 op l).map (ev r)).foldl (U9 op) t=(l.map (ev r)).foldl (U9 op) t
 |[],_,_,_=>rfl
 |x::l,t,ht,hw=>by
  have ih:=fun {t} (h:j0 t)=>C3a hop r l h λy hy=>hw y (by simp[hy])
  rw[N7]
  split
  ·rw[G5,G5,A11,A11]
   exact ih (A9D hop ht _)
  ·rename_i h
   have h1:x.op=1:=by
    by_cases h1:x.op=1
    ·exact h1
    ·exact absurd (.inl h1) h
   have h2:x.vl=wek op:=by
    by_cases h2:x.vl=wek op
    ·exact h2
    ·exact absurd (.inr h2) h
   obtain⟨h3,h4⟩:=hw x (by simp) h1
   have h5:ev r x=wek op:=by rw[h3,A9l r h4,h2]
   rw[G5,A11,h5,D9X hop ht (B0q op hop).1]
   exact ih ht
theorem A9k(r:B4){op n:Int}{v:Vl}{nm:List UInt8}(nl:Bool){l:List Ex}(hop:op=5\/op=6)(h:y8 n v nm l.length=true):ev r (.mk op n v nm nl l)=O9 ((l.map (ev r)).foldl (U9 op) (un op)):=by
 unfold y8 at h
 obtain⟨h1,rfl,rfl,rfl⟩:=of_decide_eq_true h
 have hf:J7 op 0 C5 [] l.length=true:=by
  have hc:(U7 op l.length).1=true:=by
   rcases hop with rfl|rfl
   ·show decide (2<=(l.length:Int))=true
    exact decide_eq_true (by omega)
   ·show decide (2<=(l.length:Int))=true
    exact decide_eq_true (by omega)
  rw[A7e op 0 C5 l.length hc (by omega) (by omega) (by omega)]
  decide
 rw[m7,hf,if_pos rfl]
 match l,h1 with
 |a::m,_=>
  rw[G5,A11,D9Y hop]
  unfold T8
  rw[if_neg (by omega),if_neg (by omega),if_neg (by omega),if_neg (by omega),if_pos hop]
  rfl
theorem D7J{op:Int}{l:List Ex}(h:cnS op l=true):∃x∈l,x.op=1/\x.vl=stg op:=by
 obtain⟨x,hx,h⟩:=List.any_eq_true.1 h
 exact⟨x,hx,of_decide_eq_true h⟩
theorem A6V{op:Int}:∀{l:List Ex},∀x∈N7 op l,x∈l
 |[],x,h=>by cases h
 |y::l,x,h=>by
  rw[N7] at h
  split at h
  ·rcases I2.1 h with rfl|h
   ·simp
   ·simp[A6V x h]
  ·simp[A6V x h]
theorem D8L(r:B4){op n:Int}{v:Vl}{nm:List UInt8}{l:List Ex}(hop:op=5\/op=6)(h:y8 n v nm l.length=true)(hw:∀x∈l,wfC x):ev r (cnX op n v nm l)=ev r (.mk op n v nm true l):=by
 have hun:j0 (un op):=by rcases hop with rfl|rfl<;>unfold j0<;>decide
 obtain⟨t1,t2,t3,t4,t5⟩:=B0q op hop
 unfold cnX
 split
 ·rename_i hs
  obtain⟨x,hx,h1,h2⟩:=D7J hs
  obtain⟨h3,h4⟩:=hw x hx h1
  have h5:ev r x=stg op:=by rw[h3,A9l r h4,h2]
  rw[A9l r t5,A9k r true hop h,C3d hop _ hun ⟨ev r x,D9.2 ⟨x,hx,rfl⟩,by rw[h5];exact t2⟩,t3]
 ·split
  ·rename_i h2
   have h3:y8 n v nm (N7 op l).length=true:=by
    unfold y8 at h ⊢
    obtain⟨_,q⟩:=of_decide_eq_true h
    exact decide_eq_true ⟨h2,q⟩
   rw[A9k r true hop h3,A9k r true hop h,C3a hop r l hun hw]
  ·rfl
theorem E22{ks:List Int}{e:Ex}(h:(F5 ks e).2=0):wfC (J1 e):=by
 obtain⟨op,n,v,nm,nl,args⟩:=e
 obtain⟨hf,h1,h2⟩:=A4B h
 intro h3
 rw[A5U] at h3 ⊢
 by_cases h0:K5 (.mk op n v nm nl args)=[]
 ·rw[if_pos h0]
  exact⟨rfl,A9m [] _⟩
 ·rw[if_neg h0] at h3 ⊢
  unfold smF at h3 ⊢
  by_cases h5:(op=5\/op=6)/\y8 n v nm (args.map J1).length=true
  ·rw[if_pos h5] at h3 ⊢
   unfold cnX at h3 ⊢
   split
   ·exact⟨rfl,(B0q op h5.1).2.2.2.2⟩
   ·rename_i h6
    rw[if_neg h6] at h3
    split at h3
    ·have h3:op=1:=h3
     omega
    ·have h3:op=1:=h3
     omega
  ·rw[if_neg h5] at h3
   have h3:op=1:=h3
   subst h3
   have h6:=of_decide_eq_true (show decide ((args.length:Int)=0)=true from A41 hf)
   have h7:args=[]:=A0H.1 (by omega)
   subst h7
   exact absurd rfl h0
theorem A4O{l:List Nat}{B:Nat}:mx l<=B↔∀x∈l,x<=B:=by
 constructor
 ·intro h x hx
  have key:∀(l:List Nat) (a:Nat),l.foldl max a<=B->a<=B/\∀x∈l,x<=B:=by
   intro l
   induction l with
   |nil=>intro a h;exact⟨h,by simp⟩
   |cons y l ih=>
    intro a h
    obtain⟨h1,h2⟩:=ih _ h
    refine⟨by omega,λx hx=>?_⟩
    rcases I2.1 hx with rfl|hx
    ·omega
    ·exact h2 x hx
  exact(key l 0 h).2 x hx
 ·exact C3U
theorem D0N{l:List Ex}{f g:Ex->Int}(h:∀x∈l,Le0 (f x) (g x)):LeL (l.map f) (l.map g):=by
 induction l with
 |nil=>exact .nil
 |cons a l ih=>exact .cons (h a (by simp)) (ih λx hx=>h x (by simp[hx]))
theorem D8O{l:List (Int×Int)}(h:∀x∈l,x.2=0):fe l=0:=by
 induction l with
 |nil=>rfl
 |cons a l ih=>rw[fe,if_pos (h a (by simp))];exact ih λx hx=>h x (by simp[hx])
theorem A96{ks:List Int}{op n:Int}{v:Vl}{nm:List UInt8}{nl:Bool}{l:List Ex}(hf:J7 op n v nm l.length=true)(h2:op≠2)(ha:∀a∈l,(F5 ks a).2=0)(hr:(N0 op v (l.map λa=>(F5 ks a).1)).2=true):F5 ks (.mk op n v nm nl l)=((N0 op v (l.map λa=>(F5 ks a).1)).1,0):=by
 rw[A0a,A39 hf h2,if_pos (D8O λx hx=>by obtain⟨a,hm,rfl⟩:=D9.1 hx;exact ha a hm),W3]
 show(if (N0 op v (l.map λa=>(F5 ks a).1)).2=true then _ else _)=_
 rw[if_pos hr];rfl
theorem A95{ks:List Int}{w:Vl}(h:N5 w=true):F5 ks (A2q w)=(w.k,0):=by
 have:J7 1 0 w [] ([]:List Ex).length=true:=by
  rw[A9t 0 w _ (by decide),h];rfl
 rw[A96 this (by decide) (by simp) rfl];rfl
theorem E0c(ks:List Int):Q4 (List.replicate ks.length C5) ks=true:=by
 unfold Q4
 rw[J9]
 refine⟨decide_eq_true (by simp),K8.2 λp hp=>?_⟩
 have h1:=(A8y.1 (List.of_mem_zip hp).1).2
 unfold T9
 rw[h1];rfl
theorem E21(ks:List Int):∀e:Ex,(F5 ks e).2=0->(∀r,ev r (J1 e)=ev r e)/\(F5 ks (J1 e)).2=0/\Le0 (F5 ks (J1 e)).1 (F5 ks e).1/\I6 (J1 e)<=I6 e:=by
 refine Ex.ind λop n v nm nl args ih h=>?_
 obtain⟨hf,h1,h2⟩:=A4B h
 by_cases h0:K5 (.mk op n v nm nl args)=[]
 ·have e1:J1 (.mk op n v nm nl args)=A2q (ev [] (.mk op n v nm nl args)):=by rw[A5U,if_pos h0]
  have hv:=A9m [] (.mk op n v nm nl args)
  have hcol:∀r,ev r (.mk op n v nm nl args)=ev [] (.mk op n v nm nl args):=λr=>C2H _ λc hc=>by rw[h0] at hc;cases hc
  rw[e1]
  refine⟨λr=>by rw[A9l r hv,hcol r],by rw[A95 hv],?_,?_⟩
  ·rw[A95 hv]
   have:=D8M (List.replicate ks.length C5) ks (E0c ks) _ h
   rw[hcol] at this
   exact this
  ·rw[X6,X6]
   show 1+0<=_
   omega
 ·have hop2:op=2->J1 (.mk op n v nm nl args)=.mk op n v nm true args:=λh3=>by
   obtain⟨_,_,h6⟩:=h2 h3
   rw[A5U,if_neg h0]
   unfold smF
   rw[if_neg (by rintro⟨h,_⟩;omega),h6];rfl
  by_cases h3:op=2
  ·rw[hop2 h3]
   refine⟨λr=>by rw[m7,m7],by rw[A0a] at h ⊢;exact h,by rw[A0a,A0a];exact .inl rfl,by rw[X6,X6];exact D4 _⟩
  ·obtain⟨ha,hr,hk⟩:=h1 h3
   have ih':=λa hm=>ih a hm (ha a hm)
   have hle:LeL ((args.map J1).map λa=>(F5 ks a).1) (args.map λa=>(F5 ks a).1):=by
    rw[W3]
    exact D0N λa hm=>(ih' a hm).2.2.1
   obtain⟨r1,r2⟩:=E1y (v:=v) hle hr
   have hf':J7 op n v nm (args.map J1).length=true:=by rw[D3];exact hf
   have hca:∀a∈args.map J1,(F5 ks a).2=0:=λa hm=>by
    obtain⟨x,hx,rfl⟩:=D9.1 hm
    exact(ih' x hx).2.1
   have hnode:=A96 (nl:=true) hf' h3 hca r1
   have hev:∀r,ev r (.mk op n v nm true (args.map J1))=ev r (.mk op n v nm nl args):=λr=>by
    rw[m7,m7,D3,W3,show args.map (ev r ∘ J1)=args.map (ev r) from P3 λa hm=>(ih' a hm).1 r]
   have hdp:I6 (.mk op n v nm true (args.map J1))<=I6 (.mk op n v nm nl args):=by
    rw[X6,X6,W3]
    have:mx (args.map (I6 ∘ J1))<=mx (args.map I6):=A4O.2 λx hx=>by
     obtain⟨a,hm,rfl⟩:=D9.1 hx
     exact J2 (ih' a hm).2.2.2 (A4O.1 (D4 _) _ (D9.2 ⟨a,hm,rfl⟩))
    omega
   have hwf:∀x∈args.map J1,wfC x:=λx hx=>by
    obtain⟨a,hm,rfl⟩:=D9.1 hx
    exact E22 (ha a hm)
   rw[A5U,if_neg h0]
   unfold smF
   by_cases h5:(op=5\/op=6)/\y8 n v nm (args.map J1).length=true
   ·rw[if_pos h5]
    refine⟨λr=>(D8L r h5.1 h5.2 hwf).trans (hev r),?_⟩
    have hk3:(F5 ks (.mk op n v nm nl args)).1=3:=by
     rw[hk];unfold N0
     rw[if_neg (by omega),if_pos (by omega)]
    have hal:allK ((args.map J1).map λa=>(F5 ks a).1) 3=true:=by
     unfold N0 at r1
     rw[if_neg (by omega),if_pos (by omega)] at r1
     exact r1
    unfold cnX
    split
    ·rw[A95 (B0q op h5.1).2.2.2.2,hk3]
     refine⟨rfl,.inl (by rcases h5.1 with h|h<;>subst h<;>rfl),?_⟩
     rw[X6,X6]
     show 1+0<=_
     omega
    ·split
     ·rename_i hs h6
      have hf2:J7 op n v nm (N7 op (args.map J1)).length=true:=by
       have hp:=h5.2
       unfold y8 at hp
       obtain⟨_,rfl,rfl,rfl⟩:=of_decide_eq_true hp
       have hc:(U7 op (N7 op (args.map J1)).length).1=true:=by
        rcases h5.1 with rfl|rfl
        ·show decide (2<=((N7 5 (args.map J1)).length:Int))=true
         exact decide_eq_true (by omega)
        ·show decide (2<=((N7 6 (args.map J1)).length:Int))=true
         exact decide_eq_true (by omega)
       rw[A7e op 0 C5 _ hc (by omega) (by omega) (by omega)]
       decide
      have hr2:N0 op v ((N7 op (args.map J1)).map λa=>(F5 ks a).1)=(3,true):=by
       unfold N0
       rw[if_neg (by omega),if_pos (by omega)]
       congr 1
       unfold allK at hal ⊢
       rw[K8] at hal ⊢
       intro x hx
       obtain⟨a,hm,rfl⟩:=D9.1 hx
       exact hal _ (D9.2 ⟨a,A6V a hm,rfl⟩)
      rw[A96 (nl:=true) hf2 h3 (λa hm=>hca a (A6V a hm)) (by rw[hr2]),hr2,hk3]
      refine⟨rfl,.inl rfl,?_⟩
      refine J2 ?_ hdp
      rw[X6,X6]
      have:mx ((N7 op (args.map J1)).map I6)<=mx ((args.map J1).map I6):=A4O.2 λx hx=>by
       obtain⟨a,hm,rfl⟩:=D9.1 hx
       exact A4O.1 (D4 _) _ (D9.2 ⟨a,A6V a hm,rfl⟩)
      omega
     ·rw[hnode]
      exact⟨rfl,by rw[hk];exact r2,hdp⟩
   ·rw[if_neg h5]
    rw[hnode]
    exact⟨hev,rfl,by rw[hk];exact r2,hdp⟩
end Go.Proofs
end
