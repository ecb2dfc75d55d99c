/- Texts of this claim, joined. No condition. -/
import Derived.Test.YtfnaleemmeejcaaGreatQ11
set_option linter.unusedSimpArgs false
set_option linter.unusedVariables false
set_option maxRecDepth 10000
set_option maxHeartbeats 4000000
section
namespace Go.Proofs
open Go.Bi
theorem C5h(K:List Kw)(hK:K.length<=4294967296)(hKb:∀k∈K,k.ks.length<=4294967296)(din:D)(hin:A9 din (E7 K))(o:Po)(ni:Bool)(ho:o.op=5)(a b:Pl)(hab:a.bk<=1073741824)(hbb:b.bk<=1073741824)(kd:D)(l:List Ex)(hb:∀x∈l,x.bk<=1073741824)(hl:l.length<=1073741824)(d:D)(hd:A9 d (xL l))
  (hall:(J6 false (l.map (B0 0))).bk<=1073741824) (m:Nat) (hm:(C4 K a).1.ks.length=m) (hm2:m<=48) (hr:∀x∈C8 l,x.bk<=1073741824) (hrl:(C8 l).length<=1073741824) (ra rb:Pl)
  (hA:B9 Tryz.prog m6 [.ptr 0 0,U6 a (C4 K a).1.d,.d (M8 (xL (C6 m 0 (C8 l))))] (F7 din) (λr os=>r=ra.av/\os=F7 din))
  (hB:B9 Tryz.prog m6 [.ptr 0 0,U6 b (C4 K b).1.d,.d (ng true (xL ((C6 m 1 (C8 l)).map (B0 (0-m)))))] (F7 din) (λr os=>r=rb.av/\os=F7 din)) :
  B9 Tryz.prog m6 [.ptr 0 0,U6 (.mk o ni [a,b]) kd,.d d] (F7 din) (λr os=>r=(N3 (.mk o true [ra,rb]) (C6 m 2 (C8 l))).av/\os=F7 din):=by
 have hTa:=A2w K hK hKb din hin a hab
 have hTb:=A2w K hK hKb din hin b hbb
 have hAl:=A7U l hb hl d hd
 have hSp:=B3R m (J6 false (l.map (B0 0))) hall
 have hsel:∀k:Nat,∀x∈C6 m k (C8 l),x∈C8 l:=λk x hx=>(m0.1 hx).1
 have hsl:∀k:Nat,(C6 m k (C8 l)).length<=1073741824:=λk=>K4 (A0K _ _) hrl
 have hFl:=A7T (.mk o true [ra,rb]) (C6 m 2 (C8 l)) (λx hx=>hr x (hsel 2 x hx)) (hsl 2) (M8 (xL (C6 m 2 (C8 l)))) (by rw[A3J];exact C7)
 have hSh:=λx hx=>A2v x (hr x (hsel 1 x hx)) (0-(m:Int))
 obtain⟨q,hq⟩:∃q,q=N3 (.mk o true [ra,rb]) (C6 m 2 (C8 l)):=⟨_,rfl⟩
 rw[<- hq] at hFl ⊢
 clear hq hb hl hall hrl hr
 have hska:A9 (C4 K a).1.d (A5 (C4 K a).1.ks):=C7
 have hkl:=F9 (C4 K a).1.ks
 rw[hm] at hkl
 obtain⟨ka,hka⟩:∃d,d=(C4 K a).1.d:=⟨_,rfl⟩
 obtain⟨kb,hkb⟩:∃d,d=(C4 K b).1.d:=⟨_,rfl⟩
 obtain⟨ek,hek⟩:∃z,z=A5 (C4 K a).1.ks:=⟨_,rfl⟩
 rw[<- hka] at hTa hA hska
 rw[<- hkb] at hTb hB
 rw[<- hek] at hska hkl
 clear hka hkb hek hm
 obtain⟨d0,hd0⟩:∃z,z=M8 (xL (C6 m 0 (C8 l))):=⟨_,rfl⟩
 obtain⟨d2,hd2⟩:∃z,z=M8 (xL (C6 m 2 (C8 l))):=⟨_,rfl⟩
 have hs1:A9 (M8 (xL (C6 m 1 (C8 l)))) (xL (C6 m 1 (C8 l))):=by rw[A3J];exact C7
 obtain⟨d1,hd1⟩:∃z,z=M8 (xL (C6 m 1 (C8 l))):=⟨_,rfl⟩
 have hSp:Bi.Pure Tryz.prog A4R [(J6 false (l.map (B0 0))).av,.d (eI m)] (.tup [.d (M8 (xL (C6 m 0 (C8 l)))),.d (M8 (xL (C6 m 1 (C8 l)))),.d (M8 (xL (C6 m 2 (C8 l))))]):=hSp
 rw[<- hd0,<- hd1,<- hd2] at hSp
 rw[<- hd0] at hA
 rw[<- hd1] at hs1
 rw[<- hd2] at hFl
 clear hd0 hd1 hd2
 obtain⟨L,hL⟩:∃z,z=C6 m 1 (C8 l):=⟨_,rfl⟩
 rw[<- hL] at hs1 hB hSh
 have hLl:L.length<=1073741824:=by rw[hL];exact hsl 1
 clear hL
 clear hsel hsl
 obtain⟨e,he⟩:∃e,e=J6 false (l.map (B0 0)):=⟨_,rfl⟩
 rw[<- he] at hAl hSp
 clear he
 obtain⟨eo,en,ev',em,el,ea⟩:=e
 rw[Ex.av_mk] at hAl hSp
 obtain⟨ed,hed⟩:∃d,d=ng el (xL ea):=⟨_,rfl⟩
 rw[<- hed] at hAl hSp
 clear hed
 have hm1:∀(ds:List D) n,[AV.ptr 0 0,.agg (ds.map .d)].map (mG (rn [0] n))=[.ptr 0 0,.agg (ds.map .d)]:=λds n=>by
  rw[H5,H5,V7,A2P];rfl
 have hTaL:=λos2 (ho:os2[0]?=some (AO.cells [.d din]))=>A3O 0 hTa (hm1 a.ds) (A1J _) (λf=>by rw[l8];exact R6 f _) os2 ho
 have hTbL:=λos2 (ho:os2[0]?=some (AO.cells [.d din]))=>A3O 0 hTb (hm1 b.ds) (A1J _) (λf=>by rw[l8];exact R6 f _) os2 ho
 clear hm1
 rw[show ng true (xL (L.map (B0 (0-(m:Int)))))=if (xL (L.map (B0 (0-(m:Int))))).isEmpty then .nil else .sl (xL (L.map (B0 (0-(m:Int))))) by cases xL (L.map (B0 (0-(m:Int))))<;>rfl] at hB
 have hAL:=λrest=>j8 hA (by rw[l8];exact A2W _ _) (λf=>R6 f _) rest
 have hBL:=λrest=>j8 hB (by rw[l8];exact A2W _ _) (λf=>R6 f _) rest
 clear hTa hTb hA hB
 obtain⟨op,n,nk,ki,nr,rows,⟨xo,xn,xv,xm,xl,xa⟩,nx,xs,ny,keys,na,aggs⟩:=o
 dsimp only at ho
 subst ho
 have hds:(Pl.mk (⟨5,n,nk,ki,nr,rows,.mk xo xn xv xm xl xa,nx,xs,ny,keys,na,aggs⟩:Po) ni [a,b]).ds=K1 5 n (ng nk (A5 ki)) (ng nr (B7 rows)) xo xn xv xm (ng xl (xL xa)) (ng nx (xL xs)) (ng ny (A5 keys)) (ng na (I0 aggs)) (ng ni (pL [a,b])):=Pl.ds_eq _ _ _ _ _ _ _ _ _ rfl
 have hav:(Pl.mk (⟨5,n,nk,ki,nr,rows,.mk xo xn xv xm xl xa,nx,xs,ny,keys,na,aggs⟩:Po) true [ra,rb]).av=G3 5 n (ng nk (A5 ki)) (ng nr (B7 rows)) xo xn xv xm (ng xl (xL xa)) (ng nx (xL xs)) (ng ny (A5 keys)) (ng na (I0 aggs)) (ng true (pL [ra,rb])):=Pl.av_eq _ _ _ _ _ _ _ _ _ rfl
 have e1:ng ni (pL [a,b])=.sl [a.ds,b.ds]:=by cases ni<;>rfl
 have e2:ng true (pL [ra,rb])=.sl [ra.ds,rb.ds]:=rfl
 unfold U6 at *
 rw[e1] at hds
 rw[e2] at hav
 rw[hds]
 rw[hav] at hFl
 clear e1 e2 hds hav
 obtain⟨gk,e1⟩:∃d,d=ng nk (A5 ki):=⟨_,rfl⟩
 obtain⟨gr,e2⟩:∃d,d=ng nr (B7 rows):=⟨_,rfl⟩
 obtain⟨gx,e3⟩:∃d,d=ng nx (xL xs):=⟨_,rfl⟩
 obtain⟨gy,e4⟩:∃d,d=ng ny (A5 keys):=⟨_,rfl⟩
 obtain⟨ga,e5⟩:∃d,d=ng na (I0 aggs):=⟨_,rfl⟩
 obtain⟨xd,e7⟩:∃d,d=ng xl (xL xa):=⟨_,rfl⟩
 rw[<- e1,<- e2,<- e3,<- e4,<- e5,<- e7] at hFl ⊢
 clear e1 e2 e3 e4 e5 e7
 obtain⟨ao,an,ak,ar,axo,axn,axv,axm,axd,adx,ady,ada,adi,a1,a2⟩:=Pl.cut a
 obtain⟨bo,bn,bk',br,bxo,bxn,bxv,bxm,bxd,bdx,bdy,bda,bdi,b1,b2⟩:=Pl.cut b
 obtain⟨co,cn,ck,cr,cxo,cxn,cxv,cxm,cxd,cdx,cdy,cda,cdi,c1,c2⟩:=Pl.cut ra
 obtain⟨do',dn,dk,dr,dxo,dxn,dxv,dxm,dxd,ddx,ddy,dda,ddi,d3,d4⟩:=Pl.cut rb
 obtain⟨fo,fn,fk,fr,fxo,fxn,fxv,fxm,fxd,fdx,fdy,fda,fdi,f1,f2⟩:=Pl.cut q
 have hTaL:∀os2:List AO,os2[0]?=some (AO.cells [.d din])->B9 Tryz.prog A3c [.ptr 0 0,G3 ao an ak ar axo axn axv axm axd adx ady ada adi] os2 (λr' os'=>r'=.agg ((K1 ao an ak ar axo axn axv axm axd adx ady ada adi).map .d++[.d ka])/\os'=os2):=λos2 ho=>by
  have:=hTaL os2 ho
  rw[a1] at this
  exact this
 have hTbL:∀os2:List AO,os2[0]?=some (AO.cells [.d din])->B9 Tryz.prog A3c [.ptr 0 0,G3 bo bn bk' br bxo bxn bxv bxm bxd bdx bdy bda bdi] os2 (λr' os'=>r'=.agg ((K1 bo bn bk' br bxo bxn bxv bxm bxd bdx bdy bda bdi).map .d++[.d kb])/\os'=os2):=λos2 ho=>by
  have:=hTbL os2 ho
  rw[b1] at this
  exact this
 rw[a1] at hAL ⊢
 rw[b1] at hBL ⊢
 rw[c2] at hAL
 rw[d4] at hBL
 rw[c1,d3,f2] at hFl
 rw[f2]
 clear a1 a2 b1 b2 c1 c2 d3 d4 f1 f2
 have lL:=P0 L
 have mL:=P2 L
 have gL:=λi x=>@Y1 L i x
 obtain⟨es,hes⟩:∃z,z=xL L:=⟨_,rfl⟩
 rw[<- hes] at hs1 lL mL gL
 clear hes
 rw[<- hkl] at hSp
 refine A61.goX A6 rfl ?_
 repeat' first|refine st ?_|((with_reducible apply A4);conv=>whnf)|((with_reducible apply B2j);(·first|exact hTaL|exact hTbL))|refine⟨λ_=>?_,λ_=>?_⟩|fail
 refine U7 13 7 rfl rfl ?_
 refine B08 ?_
 refine K6 A6 B0O B0L (λ(i:Nat)=>[.arr 5 (xL ((L.take i).map (B0 (0-(m:Int))))).length,.d (eI i)]) (λi=>[.cells [.d din],.cells [.d (eI 5),.d (eI n),.d gk,.d gr,.d (eI xo),.d (eI xn),.d (eI xv.k),.d (eI xv.n),.d (.str xv.s),.d (.str xm),.d xd,.d gx,.d gy,.d ga,.d (.sl [K1 ao an ak ar axo axn axv axm axd adx ady ada adi,K1 bo bn bk' br bxo bxn bxv bxm bxd bdx bdy bda bdi]),.d kd],.cells [.d (eI 0),.d (eI 0),.d .nil,.d .nil,.d (eI 0),.d (eI 0),.d (eI 0),.d (eI 0),.d (.str []),.d (.str []),.d .nil,.d .nil,.d .nil,.d .nil,.d .nil],.cells [.d (eI ao),.d (eI an),.d ak,.d ar,.d (eI axo),.d (eI axn),.d (eI axv.k),.d (eI axv.n),.d (.str axv.s),.d (.str axm),.d axd,.d adx,.d ady,.d ada,.d adi,.d ka],.cells [.d (eI bo),.d (eI bn),.d bk',.d br,.d (eI bxo),.d (eI bxn),.d (eI bxv.k),.d (eI bxv.n),.d (.str bxv.s),.d (.str bxm),.d bxd,.d bdx,.d bdy,.d bda,.d bdi,.d kb],.arr (xL ((L.take i).map (B0 (0-(m:Int))))) 7 0 (xL ((L.take i).map (B0 (0-(m:Int))))).isEmpty]) (λi=>i<=L.length) (λi=>L.length-i) 0 rfl rfl rfl rfl (λ_ _=>⟨rfl,rfl⟩) rfl (by omega) ?_
 repeat' first|refine st ?_|((with_reducible apply A4);conv=>whnf)|refine⟨λ_=>?_,λ_=>?_⟩|fail
 intro i i1
 have hw1:(xL ((L.take i).map (B0 (0-(m:Int))))).length=i:=by rw[P0,D8,M4];omega
 have hwm:=P2 ((L.take i).map (B0 (0-(m:Int))))
 have hbd:((xL ((L.take i).map (B0 (0-(m:Int))))).length+1)*88<=140737488355328:=by omega
 cases hx:L[i]? with
 |some x=>
  have hlt:=(B4.1 hx).1
  have hilt:(i:Int)<es.length:=by omega
  have hg:=gL i x hx
  have hS:=hSh x (C3 hx)
  have ht:xL ((L.take (i+1)).map (B0 (0-(m:Int))))=xL ((L.take i).map (B0 (0-(m:Int))))++[(B0 (0-(m:Int)) x).ds]:=by rw[L8,hx];simp[xL]
  obtain⟨A,hA'⟩:∃z,z=xL ((L.take i).map (B0 (0-(m:Int)))):=⟨_,rfl⟩
  rw[<- hA'] at hw1 hwm hbd ht ⊢
  obtain⟨y,hy⟩:∃y,y=B0 (0-(m:Int)) x:=⟨_,rfl⟩
  rw[<- hy] at hS ht
  clear hy gL hx hA' hSh hTaL hTbL hAL hBL hFl hAl hSp
  obtain⟨x1,x2,x3,x4,x5,x6⟩:=x
  obtain⟨y1,y2,y3,y4,y5,y6⟩:=y
  rw[Ex.av_mk,Ex.av_mk] at hS
  rw[Ex.ds_mk] at hg ht
  have hg:es[((i:Nat):Int).toNat]?=some (T5 x1 x2 x3 x4 (ng x5 (xL x6))):=hg
  obtain⟨z1,hz1⟩:∃d,d=ng x5 (xL x6):=⟨_,rfl⟩
  obtain⟨z2,hz2⟩:∃d,d=ng y5 (xL y6):=⟨_,rfl⟩
  rw[<- hz1,<- hz2] at hS
  rw[<- hz1] at hg
  rw[<- hz2] at ht
  clear hz1 hz2
  rw[<- hkl] at hS
  have q0:x3.s=x3.s:=rfl
  have q1:x4=x4:=rfl
  have q2:y3.s=y3.s:=rfl
  have q3:y4=y4:=rfl
  repeat' first|refine st ?_|((with_reducible apply A4);conv=>whnf)|refine⟨λ_=>?_,λ_=>?_⟩|fail
  exact⟨i+1,by rw[ht];simp,rfl,by rw[ht];simp,by omega,by omega⟩
 |none=>
  have hge:=E9.1 hx
  have hilt:(es.length:Int)<=i:=by omega
  rw[H4 hge] at hw1 hwm hbd ⊢
  obtain⟨A,hA'⟩:∃z,z=xL (L.map (B0 (0-(m:Int)))):=⟨_,rfl⟩
  rw[<- hA'] at hw1 hwm hbd hBL ⊢
  clear gL hx hA' hSh hTaL hTbL hAl hSp
  repeat' first|refine st ?_|((with_reducible apply A4);conv=>whnf)|refine⟨λ_=>?_,λ_=>?_⟩|fail
  refine⟨_,_,j0.frz 13 rfl rfl rfl j0.refl,?_⟩
  refine A6X ?_
  repeat' first|refine st ?_|((with_reducible apply A4);conv=>whnf)|((with_reducible first|apply O8|apply O7);(·first|exact hAL _|exact hBL _);(try rintro _ _ ⟨rfl,rfl⟩))|((with_reducible apply O9);(·first|exact hAL _|exact hBL _))|refine⟨λ_=>?_,λ_=>?_⟩|fail
  all_goals exact⟨rfl,rfl⟩
theorem C5j(K:List Kw)(hK:K.length<=4294967296)(hKb:∀k∈K,k.ks.length<=4294967296)(din:D)(hin:A9 din (E7 K))(o:Po)(ni:Bool)(ho:o.op=6)(a b:Pl)(hab:a.bk<=1073741824)(hbb:b.bk<=1073741824)(kd:D)(l:List Ex)(hb:∀x∈l,x.bk<=1073741824)(hl:l.length<=1073741824)(d:D)(hd:A9 d (xL l))
  (hall:(J6 false (l.map (B0 0))).bk<=1073741824) (m:Nat) (hm:(C4 K a).1.ks.length=m) (hm2:m<=48) (hr:∀x∈C8 l,x.bk<=1073741824) (hrl:(C8 l).length<=1073741824) (ra rb:Pl)
  (hA:B9 Tryz.prog m6 [.ptr 0 0,U6 a (C4 K a).1.d,.d (M8 (xL (C6 m 0 (C8 l))))] (F7 din) (λr os=>r=ra.av/\os=F7 din))
  (hB:B9 Tryz.prog m6 [.ptr 0 0,U6 b (C4 K b).1.d,.d .nil] (F7 din) (λr os=>r=rb.av/\os=F7 din)) :
  B9 Tryz.prog m6 [.ptr 0 0,U6 (.mk o ni [a,b]) kd,.d d] (F7 din) (λr os=>r=(N3 (.mk o true [ra,rb]) (C6 m 1 (C8 l)++C6 m 2 (C8 l))).av/\os=F7 din):=by
 have hTa:=A2w K hK hKb din hin a hab
 have hTb:=A2w K hK hKb din hin b hbb
 have hAl:=A7U l hb hl d hd
 have hSp:=C4T m (J6 false (l.map (B0 0))) hall
 have hsel:∀k:Nat,∀x∈C6 m k (C8 l),x∈C8 l:=λk x hx=>(m0.1 hx).1
 have hsl:∀k:Nat,(C6 m k (C8 l)).length<=1073741824:=λk=>K4 (A0K _ _) hrl
 have hFl:=A7T (.mk o true [ra,rb]) (C6 m 1 (C8 l)++C6 m 2 (C8 l)) (λx hx=>by
  rcases K8.1 hx with hx|hx
  ·exact hr x (hsel 1 x hx)
  ·exact hr x (hsel 2 x hx)) (by
  have h1:=A8w m (C8 l)
  have h2:=A0K (λx=>decide (P9 m x≠0)) (C8 l)
  have h3:=B33 m (C8 l)
  omega) (u7 (bif (xL (C6 m 2 (C8 l))).isEmpty then (xL (C6 m 1 (C8 l))).isEmpty else false) .nil (.sl (xL (C6 m 1 (C8 l))++xL (C6 m 2 (C8 l))))) (by
  rw[show xL (C6 m 1 (C8 l)++C6 m 2 (C8 l))=xL (C6 m 1 (C8 l))++xL (C6 m 2 (C8 l)) by simp[xL]]
  cases xL (C6 m 1 (C8 l))<;>cases xL (C6 m 2 (C8 l))<;>first|exact .inl ⟨rfl,rfl⟩|exact .inr rfl)
 obtain⟨q,hq⟩:∃q,q=N3 (.mk o true [ra,rb]) (C6 m 1 (C8 l)++C6 m 2 (C8 l)):=⟨_,rfl⟩
 rw[<- hq] at hFl ⊢
 clear hq hb hl hall hrl hr
 have hska:A9 (C4 K a).1.d (A5 (C4 K a).1.ks):=C7
 have hkl:=F9 (C4 K a).1.ks
 rw[hm] at hkl
 obtain⟨ka,hka⟩:∃d,d=(C4 K a).1.d:=⟨_,rfl⟩
 obtain⟨kb,hkb⟩:∃d,d=(C4 K b).1.d:=⟨_,rfl⟩
 obtain⟨ek,hek⟩:∃z,z=A5 (C4 K a).1.ks:=⟨_,rfl⟩
 rw[<- hka] at hTa hA hska
 rw[<- hkb] at hTb hB
 rw[<- hek] at hska hkl
 clear hka hkb hek hm
 obtain⟨A0,hA0⟩:∃z,z=xL (C6 m 0 (C8 l)):=⟨_,rfl⟩
 obtain⟨A1,hA1⟩:∃z,z=xL (C6 m 1 (C8 l)):=⟨_,rfl⟩
 obtain⟨A2,hA2⟩:∃z,z=xL (C6 m 2 (C8 l)):=⟨_,rfl⟩
 have g1:=P0 (C6 m 1 (C8 l))
 have g2:=P0 (C6 m 2 (C8 l))
 have g3:=hsl 1
 have g4:=hsl 2
 have g5:=P2 (C6 m 2 (C8 l))
 have g6:=P2 (C6 m 1 (C8 l))
 have hSp:B9 Tryz.prog A4R [(J6 false (l.map (B0 0))).av,.d (eI m)] [] (λr os=>r=.tup [.arr 1 (xL (C6 m 0 (C8 l))).length,.arr 2 (xL (C6 m 1 (C8 l))).length,.arr 3 (xL (C6 m 2 (C8 l))).length]/\
  os=[.cells ((J6 false (l.map (B0 0))).ds.map .d),.arr (xL (C6 m 0 (C8 l))) 7 0 (xL (C6 m 0 (C8 l))).isEmpty,.arr (xL (C6 m 1 (C8 l))) 7 0 (xL (C6 m 1 (C8 l))).isEmpty,.arr (xL (C6 m 2 (C8 l))) 7 0 (xL (C6 m 2 (C8 l))).isEmpty]):=hSp
 rw[<- hA0,<- hA1,<- hA2] at hSp
 rw[<- hA0,show M8 A0=if A0.isEmpty then .nil else .sl A0 from rfl] at hA
 rw[<- hA1,<- hA2] at hFl
 rw[<- hA1] at g1 g6
 rw[<- hA2] at g2 g5
 rw[<- g1] at g3
 rw[<- g2] at g4
 clear hA0 hA1 hA2 g1 g2
 clear hsel hsl
 obtain⟨e,he⟩:∃e,e=J6 false (l.map (B0 0)):=⟨_,rfl⟩
 rw[<- he] at hAl hSp
 clear he
 obtain⟨eo,en,ev',em,el,ea⟩:=e
 rw[Ex.av_mk] at hAl hSp
 rw[Ex.ds_mk] at hSp
 obtain⟨ed,hed⟩:∃d,d=ng el (xL ea):=⟨_,rfl⟩
 rw[<- hed] at hAl hSp
 clear hed
 have hm1:∀(ds:List D) n,[AV.ptr 0 0,.agg (ds.map .d)].map (mG (rn [0] n))=[.ptr 0 0,.agg (ds.map .d)]:=λds n=>by
  rw[H5,H5,V7,A2P];rfl
 have hTaL:=λos2 (ho:os2[0]?=some (AO.cells [.d din]))=>A3O 0 hTa (hm1 a.ds) (A1J _) (λf=>by rw[l8];exact R6 f _) os2 ho
 have hTbL:=λos2 (ho:os2[0]?=some (AO.cells [.d din]))=>A3O 0 hTb (hm1 b.ds) (A1J _) (λf=>by rw[l8];exact R6 f _) os2 ho
 clear hm1
 have hAL:=λrest=>j8 hA (by rw[l8];exact A2W _ _) (λf=>R6 f _) rest
 have hBL:=λrest=>j8 hB (by rw[l8];exact A2W _ _) (λf=>R6 f _) rest
 clear hTa hTb hA hB
 obtain⟨op,n,nk,ki,nr,rows,⟨xo,xn,xv,xm,xl,xa⟩,nx,xs,ny,keys,na,aggs⟩:=o
 dsimp only at ho
 subst ho
 have hds:(Pl.mk (⟨6,n,nk,ki,nr,rows,.mk xo xn xv xm xl xa,nx,xs,ny,keys,na,aggs⟩:Po) ni [a,b]).ds=K1 6 n (ng nk (A5 ki)) (ng nr (B7 rows)) xo xn xv xm (ng xl (xL xa)) (ng nx (xL xs)) (ng ny (A5 keys)) (ng na (I0 aggs)) (ng ni (pL [a,b])):=Pl.ds_eq _ _ _ _ _ _ _ _ _ rfl
 have hav:(Pl.mk (⟨6,n,nk,ki,nr,rows,.mk xo xn xv xm xl xa,nx,xs,ny,keys,na,aggs⟩:Po) true [ra,rb]).av=G3 6 n (ng nk (A5 ki)) (ng nr (B7 rows)) xo xn xv xm (ng xl (xL xa)) (ng nx (xL xs)) (ng ny (A5 keys)) (ng na (I0 aggs)) (ng true (pL [ra,rb])):=Pl.av_eq _ _ _ _ _ _ _ _ _ rfl
 have e1:ng ni (pL [a,b])=.sl [a.ds,b.ds]:=by cases ni<;>rfl
 have e2:ng true (pL [ra,rb])=.sl [ra.ds,rb.ds]:=rfl
 unfold U6 at *
 rw[e1] at hds
 rw[e2] at hav
 rw[hds]
 rw[hav] at hFl
 clear e1 e2 hds hav
 obtain⟨gk,e1⟩:∃d,d=ng nk (A5 ki):=⟨_,rfl⟩
 obtain⟨gr,e2⟩:∃d,d=ng nr (B7 rows):=⟨_,rfl⟩
 obtain⟨gx,e3⟩:∃d,d=ng nx (xL xs):=⟨_,rfl⟩
 obtain⟨gy,e4⟩:∃d,d=ng ny (A5 keys):=⟨_,rfl⟩
 obtain⟨ga,e5⟩:∃d,d=ng na (I0 aggs):=⟨_,rfl⟩
 obtain⟨xd,e7⟩:∃d,d=ng xl (xL xa):=⟨_,rfl⟩
 rw[<- e1,<- e2,<- e3,<- e4,<- e5,<- e7] at hFl ⊢
 clear e1 e2 e3 e4 e5 e7
 obtain⟨ao,an,ak,ar,axo,axn,axv,axm,axd,adx,ady,ada,adi,a1,a2⟩:=Pl.cut a
 obtain⟨bo,bn,bk',br,bxo,bxn,bxv,bxm,bxd,bdx,bdy,bda,bdi,b1,b2⟩:=Pl.cut b
 obtain⟨co,cn,ck,cr,cxo,cxn,cxv,cxm,cxd,cdx,cdy,cda,cdi,c1,c2⟩:=Pl.cut ra
 obtain⟨do',dn,dk,dr,dxo,dxn,dxv,dxm,dxd,ddx,ddy,dda,ddi,d3,d4⟩:=Pl.cut rb
 obtain⟨fo,fn,fk,fr,fxo,fxn,fxv,fxm,fxd,fdx,fdy,fda,fdi,f1,f2⟩:=Pl.cut q
 have hTaL:∀os2:List AO,os2[0]?=some (AO.cells [.d din])->B9 Tryz.prog A3c [.ptr 0 0,G3 ao an ak ar axo axn axv axm axd adx ady ada adi] os2 (λr' os'=>r'=.agg ((K1 ao an ak ar axo axn axv axm axd adx ady ada adi).map .d++[.d ka])/\os'=os2):=λos2 ho=>by
  have:=hTaL os2 ho
  rw[a1] at this
  exact this
 have hTbL:∀os2:List AO,os2[0]?=some (AO.cells [.d din])->B9 Tryz.prog A3c [.ptr 0 0,G3 bo bn bk' br bxo bxn bxv bxm bxd bdx bdy bda bdi] os2 (λr' os'=>r'=.agg ((K1 bo bn bk' br bxo bxn bxv bxm bxd bdx bdy bda bdi).map .d++[.d kb])/\os'=os2):=λos2 ho=>by
  have:=hTbL os2 ho
  rw[b1] at this
  exact this
 rw[a1] at hAL ⊢
 rw[b1] at hBL ⊢
 rw[c2] at hAL
 rw[d4] at hBL
 rw[c1,d3,f2] at hFl
 rw[f2]
 clear a1 a2 b1 b2 c1 c2 d3 d4 f1 f2
 have hbd:(A1.length+A2.length)*88<=140737488355328:=by omega
 have hbd2:A1.length+A2.length<=9223372036854775807:=by omega
 obtain⟨b0,hb0⟩:∃b,b=A0.isEmpty:=⟨_,rfl⟩
 obtain⟨b1,hb1⟩:∃b,b=A1.isEmpty:=⟨_,rfl⟩
 rw[<- hb0] at hSp hAL
 rw[<- hb1] at hSp hFl
 rw[<- hkl] at hSp
 refine A61.goX A6 rfl ?_
 repeat' first|refine st ?_|((with_reducible apply A4);conv=>whnf)|((with_reducible apply B2j);(·first|exact hTaL|exact hTbL))|((with_reducible first|apply O8|apply O7);(·exact hSp);(try rintro _ _ ⟨rfl,rfl⟩))|((with_reducible apply O9);(·exact hSp))|refine⟨λ_=>?_,λ_=>?_⟩|fail
 refine B08 ?_
 refine K6 A6 B0O B0L (λ(i:Nat)=>[.d .nil,.d (eI i)]) (λi=>[.cells [.d din],.cells [.d (eI 6),.d (eI n),.d gk,.d gr,.d (eI xo),.d (eI xn),.d (eI xv.k),.d (eI xv.n),.d (.str xv.s),.d (.str xm),.d xd,.d gx,.d gy,.d ga,.d (.sl [K1 ao an ak ar axo axn axv axm axd adx ady ada adi,K1 bo bn bk' br bxo bxn bxv bxm bxd bdx bdy bda bdi]),.d kd],.cells [.d (eI 0),.d (eI 0),.d .nil,.d .nil,.d (eI 0),.d (eI 0),.d (eI 0),.d (eI 0),.d (.str []),.d (.str []),.d .nil,.d .nil,.d .nil,.d .nil,.d .nil],.cells [.d (eI ao),.d (eI an),.d ak,.d ar,.d (eI axo),.d (eI axn),.d (eI axv.k),.d (eI axv.n),.d (.str axv.s),.d (.str axm),.d axd,.d adx,.d ady,.d ada,.d adi,.d ka],.cells [.d (eI bo),.d (eI bn),.d bk',.d br,.d (eI bxo),.d (eI bxn),.d (eI bxv.k),.d (eI bxv.n),.d (.str bxv.s),.d (.str bxm),.d bxd,.d bdx,.d bdy,.d bda,.d bdi,.d kb],.cells [.d (eI eo),.d (eI en),.d (eI ev'.k),.d (eI ev'.n),.d (.str ev'.s),.d (.str em),.d ed],.arr A0 7 0 b0,.arr (A1++A2) 7 0 (bif A2.isEmpty then b1 else false),.arr A2 7 0 A2.isEmpty]) (λi=>i=0) (λi=>i) 0 rfl rfl rfl rfl (λ_ _=>⟨rfl,rfl⟩) rfl rfl ?_
 repeat' first|refine st ?_|((with_reducible apply A4);conv=>whnf)|refine⟨λ_=>?_,λ_=>?_⟩|fail
 intro i i1
 subst i1
 repeat' first|refine st ?_|((with_reducible apply A4);conv=>whnf)|refine⟨λ_=>?_,λ_=>?_⟩|fail
 refine⟨_,_,j0.frz 10 rfl rfl rfl j0.refl,?_⟩
 refine A6X ?_
 repeat' first|refine st ?_|((with_reducible apply A4);conv=>whnf)|((with_reducible first|apply O8|apply O7);(·first|exact hAL _|exact hBL _);(try rintro _ _ ⟨rfl,rfl⟩))|((with_reducible apply O9);(·first|exact hAL _|exact hBL _))|refine⟨λ_=>?_,λ_=>?_⟩|fail
 all_goals exact⟨rfl,rfl⟩
theorem A8v(l:List Ex):l.length<=aL l:=by
 rw[A47];omega
theorem D4u{l:List Ex}(h:∀c∈l,M6 c):(J6 false (l.map (B0 0))).bk<=aL l+8:=by
 rw[A3F h]
 by_cases hn:l=[]
 ·subst hn;decide
 ·have:=B9W (nl:=false) hn
  omega
theorem A8N(K:List Kw)(p:Pl):(C4 K p).1.ks.length<=48:=by
 unfold C4
 split
 ·decide
 ·exact Z8 K p
theorem C5f(K:List Kw)(hK:K.length<=4294967296)(hKb:∀k∈K,k.ks.length<=4294967296)(din:D)(hin:A9 din (E7 K)):∀{x:Pl},NF K x->∀l:List Ex,(∀c∈l,M6 c)->pw x+aL l+23*jn x+23<=1073741824->∀kd d,A9 d (xL l)->
  B9 Tryz.prog m6 [.ptr 0 0,U6 x kd,.d d] (F7 din) (λr os=>r=(J5 K x l).av/\os=F7 din):=by
 intro x hx
 induction hx with
 |@leaf o ni ins h hs ih=>
  intro l hl hb kd d hd
  have h1:=A8v l
  rw[A7f K l h]
  exact B0j din o ni ins h kd l (λc hc=>by have:=A6h c hc;omega) (by omega) d hd
 |@join o ni a b h ha hb' iha ihb=>
  intro l hl hb kd d hd
  have h1:=A8v l
  have h2:=B9X hl
  have h3:=A8w (F8 K a) (C8 l)
  have h4:=A8v (C8 l)
  have h5:=D4u hl
  obtain⟨p1,p2⟩:=A9s o ni a b
  rw[if_pos h] at p2
  have hab:=(A07 a).1
  have hbb:=(A07 b).1
  have hA:=iha (C6 (F8 K a) 0 (C8 l)) (N9 hl) (by omega) (C4 K a).1.d (M8 (xL (C6 (F8 K a) 0 (C8 l)))) (by rw[A3J];exact C7)
  rcases h with h|h
  ·have h6:=A2E (A00 (-(F8 K a))) (C6 (F8 K a) 1 (C8 l))
   have hB:=ihb ((C6 (F8 K a) 1 (C8 l)).map (B0 (-(F8 K a)))) (A4w (N9 hl)) (by omega) (C4 K b).1.d (ng true (xL ((C6 (F8 K a) 1 (C8 l)).map (B0 (-(F8 K a)))))) C7
   rw[A4t K l h]
   exact C5h K hK hKb din hin o ni h a b (by omega) (by omega) kd l (λc hc=>by have:=A6h c hc;omega) (by omega) d hd (by omega) _ rfl (A8N K a) (λc hc=>by have:=A6h c hc;omega) (by omega) _ _ hA (by rw[Int.zero_sub];exact hB)
  ·have hB:=ihb [] (by simp) (by have:aL []=0:=rfl;omega) (C4 K b).1.d .nil (.inl ⟨rfl,rfl⟩)
   rw[A4u K l h]
   exact C5j K hK hKb din hin o ni h a b (by omega) (by omega) kd l (λc hc=>by have:=A6h c hc;omega) (by omega) d hd (by omega) _ rfl (A8N K a) (λc hc=>by have:=A6h c hc;omega) (by omega) _ _ hA hB
 |@filt o ni y lp h hy h3 hp hlp hc hr ih=>
  intro l hl hb kd d hd
  have h1:=A8v l
  obtain⟨p1,p2⟩:=A9r o ni y
  rw[if_neg (by omega)] at p2
  have ew:wp1 o=max (o.pred.bk+8) (aL (cj o.pred)):=if_pos h
  have hyb:=(A07 y).1
  have h2:=A2E (A00 0) (cj o.pred)
  have h6:=A6g ((cj o.pred).map (B0 0)) l
  rw[A4s K l h]
  refine C5g K hK hKb din hin o ni y _ h (by omega) (by omega) kd l (by omega) d hd λd' hd'=>?_
  exact ih _ (λc hm=>by
   rcases K8.1 hm with hm|hm
   ·exact A25 _ c hm
   ·exact hl c hm) (by omega) _ d' hd'
theorem C5o(din:D)(g:Pl->Pl)(o:Po)(ni:Bool)(ins:List Pl)(hop:o.op≠3)(hb:(Pl.mk o ni ins).bk<=1073741824)(hf:∀x∈ins,B9 Tryz.prog S7 [.ptr 0 0,x.av] (F7 din) (λr os=>r=(g x).av/\os=F7 din)) :
  B9 Tryz.prog S7 [.ptr 0 0,(Pl.mk o ni ins).av] (F7 din) (λr os=>r=(Pl.mk (m8 o) true (ins.map g)).av/\os=F7 din):=by
 have hM:=B3O S7 g o ni ins hb din hf
 have hML:=λrest=>j8 hM (A9w _ _) (λf=>R6 f _) rest
 clear hM hf hb
 obtain⟨q,hq⟩:∃q,q=Pl.mk (m8 o) true (ins.map g):=⟨_,rfl⟩
 rw[<- hq] at hML ⊢
 clear hq
 obtain⟨xo,xn,xv,xm,xd,hav,hds⟩:=Pl.cuto o ni ins
 have hML:∀rest,B9 Tryz.prog A2B [(Pl.mk o ni ins).av,.bcl S7 0] (F7 din++rest) (λr' os'=>r'=q.av/\os'=F7 din++rest):=hML
 rw[hav] at hML ⊢
 clear hav hds
 obtain⟨fo,fn,fk,fr,fxo,fxn,fxv,fxm,fxd,fdx,fdy,fda,fdi,f1,f2⟩:=Pl.cut q
 rw[f2] at hML ⊢
 clear f1 f2
 obtain⟨op,h0⟩:∃d,d=o.op:=⟨_,rfl⟩
 obtain⟨n,h1⟩:∃d,d=o.n:=⟨_,rfl⟩
 obtain⟨dk,h2⟩:∃d,d=o.dk:=⟨_,rfl⟩
 obtain⟨dr,h3⟩:∃d,d=o.dr:=⟨_,rfl⟩
 obtain⟨dx,h4⟩:∃d,d=o.dx:=⟨_,rfl⟩
 obtain⟨dy,h5⟩:∃d,d=o.dy:=⟨_,rfl⟩
 obtain⟨da,h6⟩:∃d,d=o.da:=⟨_,rfl⟩
 obtain⟨di,h7⟩:∃d,d=ng ni (pL ins):=⟨_,rfl⟩
 rw[<- h0] at hop
 rw[<- h0,<- h1,<- h2,<- h3,<- h4,<- h5,<- h6,<- h7] at hML ⊢
 clear h0 h1 h2 h3 h4 h5 h6 h7
 have r0:xv.k=xv.k:=rfl
 have r1:xv.s=xv.s:=rfl
 have r2:xm=xm:=rfl
 have r3:fxv.s=fxv.s:=rfl
 have r4:fxm=fxm:=rfl
 refine A84.goX A6 rfl ?_
 repeat' first|refine st ?_|((with_reducible apply A4);conv=>whnf)|((with_reducible first|apply O8|apply O7);(·exact hML _);(try rintro _ _ ⟨rfl,rfl⟩))|((with_reducible apply O9);(·exact hML _))|refine⟨λ_=>?_,λ_=>?_⟩|fail
 all_goals first|exact⟨rfl,rfl⟩|(exfalso;omega)
theorem C5m(K:List Kw)(hK:K.length<=4294967296)(hKb:∀k∈K,k.ks.length<=4294967296)(din:D)(hin:A9 din (E7 K))(o:Po)(ni:Bool)(ho:o.op=3)(x y q:Pl)(hb:(Pl.mk o ni [x]).bk<=1073741824)(hyb:y.bk<=1073741824)(hf:B9 Tryz.prog S7 [.ptr 0 0,x.av] (F7 din) (λr os=>r=y.av/\os=F7 din))
  (hP:B9 Tryz.prog m6 [.ptr 0 0,U6 y (C4 K y).1.d,.d (M8 (xL ((cj (B0 0 o.pred)).map (B0 0))))] (F7 din) (λr os=>r=q.av/\os=F7 din)) :
  B9 Tryz.prog S7 [.ptr 0 0,(Pl.mk o ni [x]).av] (F7 din) (λr os=>r=q.av/\os=F7 din):=by
 have hM:=B3O S7 (λ_=>y) o ni [x] hb din (λz hz=>by rw[M7.1 hz];exact hf)
 have hML:=λrest=>j8 hM (A9w _ _) (λf=>R6 f _) rest
 have hpb:=(Pl.bd hb).pred
 have hT:=A2w K hK hKb din hin y hyb
 have hC:=A7V (B0 0 o.pred) (K4 (A00 0 _) hpb)
 have hTL:=λrest=>j8 hT (A1J _) (λf=>by rw[l8];exact R6 f _) rest
 have hPL:=λrest=>j8 hP (by rw[l8];exact A2W _ _) (λf=>R6 f _) rest
 clear hM hf hT hP hb hpb
 obtain⟨d,hd⟩:∃d,d=M8 (xL ((cj (B0 0 o.pred)).map (B0 0))):=⟨_,rfl⟩
 rw[<- hd] at hC hPL
 clear hd
 obtain⟨kd,hkd⟩:∃d,d=(C4 K y).1.d:=⟨_,rfl⟩
 rw[<- hkd] at hTL hPL
 clear hkd
 obtain⟨op,n,nk,ki,nr,rows,pred,nx,xs,ny,keys,na,aggs⟩:=o
 dsimp only at ho hC
 subst ho
 have hML:∀rest,B9 Tryz.prog A2B [(Pl.mk (⟨3,n,nk,ki,nr,rows,pred,nx,xs,ny,keys,na,aggs⟩:Po) ni [x]).av,.bcl S7 0] (F7 din++rest) (λr' os'=>r'=(Pl.mk (⟨3,n,nk,ki,true,rows,B0 0 pred,true,xs.map (B0 0),ny,keys,na,aggs⟩:Po) true [y]).av/\os'=F7 din++rest):=hML
 obtain⟨e2,he2⟩:∃e,e=B0 0 pred:=⟨_,rfl⟩
 rw[<- he2] at hML hC
 clear he2
 obtain⟨xo,xn,xv,xm,xl,xa⟩:=pred
 obtain⟨yo,yn,yv,ym,yl,ya⟩:=e2
 have hav1:(Pl.mk (⟨3,n,nk,ki,nr,rows,.mk xo xn xv xm xl xa,nx,xs,ny,keys,na,aggs⟩:Po) ni [x]).av=G3 3 n (ng nk (A5 ki)) (ng nr (B7 rows)) xo xn xv xm (ng xl (xL xa)) (ng nx (xL xs)) (ng ny (A5 keys)) (ng na (I0 aggs)) (ng ni (pL [x])):=Pl.av_eq _ _ _ _ _ _ _ _ _ rfl
 have hav2:(Pl.mk (⟨3,n,nk,ki,true,rows,.mk yo yn yv ym yl ya,true,xs.map (B0 0),ny,keys,na,aggs⟩:Po) true [y]).av=G3 3 n (ng nk (A5 ki)) (ng true (B7 rows)) yo yn yv ym (ng yl (xL ya)) (ng true (xL (xs.map (B0 0)))) (ng ny (A5 keys)) (ng na (I0 aggs)) (ng true (pL [y])):=Pl.av_eq _ _ _ _ _ _ _ _ _ rfl
 have e3:ng true (pL [y])=.sl [y.ds]:=rfl
 rw[e3] at hav2
 rw[hav1,hav2] at hML
 rw[hav1]
 rw[Ex.av_mk] at hC
 clear hav1 hav2 e3
 obtain⟨gk,e1⟩:∃d,d=ng nk (A5 ki):=⟨_,rfl⟩
 obtain⟨gr,e2⟩:∃d,d=ng nr (B7 rows):=⟨_,rfl⟩
 obtain⟨gx,e3⟩:∃d,d=ng nx (xL xs):=⟨_,rfl⟩
 obtain⟨gy,e4⟩:∃d,d=ng ny (A5 keys):=⟨_,rfl⟩
 obtain⟨ga,e5⟩:∃d,d=ng na (I0 aggs):=⟨_,rfl⟩
 obtain⟨gi,e6⟩:∃d,d=ng ni (pL [x]):=⟨_,rfl⟩
 obtain⟨xd,e7⟩:∃d,d=ng xl (xL xa):=⟨_,rfl⟩
 rw[<- e1,<- e2,<- e3,<- e4,<- e5,<- e6,<- e7] at hML ⊢
 clear e1 e2 e3 e4 e5 e6 e7
 obtain⟨gr2,e2⟩:∃d,d=ng true (B7 rows):=⟨_,rfl⟩
 obtain⟨gx2,e3⟩:∃d,d=ng true (xL (xs.map (B0 0))):=⟨_,rfl⟩
 obtain⟨yd,e7⟩:∃d,d=ng yl (xL ya):=⟨_,rfl⟩
 rw[<- e2,<- e3,<- e7] at hML
 rw[<- e7] at hC
 clear e2 e3 e7
 unfold U6 at hTL hPL
 obtain⟨bo,bn,bk',br,bxo,bxn,bxv,bxm,bxd,bdx,bdy,bda,bdi,b1,b2⟩:=Pl.cut y
 obtain⟨fo,fn,fk,fr,fxo,fxn,fxv,fxm,fxd,fdx,fdy,fda,fdi,f1,f2⟩:=Pl.cut q
 rw[b1] at hML hTL hPL
 rw[b2] at hTL
 rw[f2] at hPL ⊢
 clear b1 b2 f1 f2
 have r0:xv.k=xv.k:=rfl
 have r1:xv.s=xv.s:=rfl
 have r2:xm=xm:=rfl
 have r3:yv.s=yv.s:=rfl
 have r4:ym=ym:=rfl
 refine A84.goX A6 rfl ?_
 repeat' first|refine st ?_|((with_reducible apply A4);conv=>whnf)|((with_reducible first|apply O8|apply O7);(·first|exact hML _|exact hTL _|exact hPL _);(try rintro _ _ ⟨rfl,rfl⟩))|((with_reducible apply O9);(·first|exact hML _|exact hTL _|exact hPL _))|refine⟨λ_=>?_,λ_=>?_⟩|fail
 all_goals first|exact⟨rfl,rfl⟩|(exfalso;omega)
theorem C5l(K:List Kw)(hK:K.length<=4294967296)(hKb:∀k∈K,k.ks.length<=4294967296)(din:D)(hin:A9 din (E7 K)):∀p:Pl,F5 p<=24->pw p+552*jn p+23<=1073741824->(C2 K p).2=0->
  B9 Tryz.prog S7 [.ptr 0 0,p.av] (F7 din) (λr os=>r=(M9 K p).av/\os=F7 din):=by
 refine Pl.ind λo ni ins ih hd hb h0=>?_
 obtain⟨k1,k2,k3,k4,k5,k6⟩:=Z9 h0
 have hpb:(Pl.mk o ni ins).bk<=1073741824:=by have:=(A07 (.mk o ni ins)).1;omega
 have ih':=λx hx=>ih x hx (by have:=A3s hx;rw[F5] at hd;omega) (by have:=B2S hx;rw[pw,jn] at hb;omega) (k3 x hx)
 by_cases h3:o.op=3
 ·rw[h3] at k2
  obtain⟨x,rfl⟩:=A3D (show ins.length=1 by have:J9 3=1:=rfl;omega)
  rw[A5C K h3]
  rw[A3r] at hd
  obtain⟨p1,p2⟩:=A9r o ni x
  rw[if_neg (by omega)] at p2
  have ew:wp1 o=max (o.pred.bk+8) (aL (cj o.pred)):=if_pos h3
  obtain⟨q1,q2⟩:=B2P x 23 (by omega) (k3 x (by simp))
  have a1:=A2E (A00 0) (cj (B0 0 o.pred))
  have a2:=A2E (A00 0) (cj o.pred)
  rw[<- B1D] at a2
  have hyb:=(A07 (M9 K x)).1
  exact C5m K hK hKb din hin o ni h3 x (M9 K x) _ hpb (by omega) (ih' x (by simp)) (C5f K hK hKb din hin (A7j x (k3 x (by simp))) _ (A25 _) (by omega) _ _ (by rw[A3J];exact C7))
 ·rw[A5D K h3]
  exact C5o din (M9 K) o ni ins h3 hpb ih'
def sfP(K:List Kw)(p q:Pl):Pl:=if (C4 K q).2=0/\(C4 K p).1.ks=(C4 K q).1.ks then q else W8 p
theorem C6p(K:List Kw)(hK:K.length<=4294967296)(hKb:∀k∈K,k.ks.length<=4294967296)(din:D)(hin:A9 din (E7 K))(g:FuncId)(p q:Pl)(hpb:p.bk<=1073741824)(hqb:q.bk<=1073741824)(hg:B9 Tryz.prog g [.ptr 0 0,p.av] (F7 din) (λr os=>r=q.av/\os=F7 din))(h1:(C4 K p).2=0) :
  B9 Tryz.prog A4Q [.ptr 0 0,p.av,.bcl g 0] (F7 din) (λr os=>r=(sfP K p q).av/\os=F7 din):=by
 have hCp:=A5Z K hK hKb din hin p hpb
 have hCq:=A5Z K hK hKb din hin q hqb
 have hl1:=A8N K p
 have hl2:=A8N K q
 have hE:=B4j (C4 K p).1.ks (C4 K q).1.ks (by omega) (by omega) (C4 K p).1.d (C4 K q).1.d C7 C7
 have hL:=C5d p hpb
 rw[h1] at hCp
 have hs:((C4 K q).2=0/\(C4 K p).1.ks=(C4 K q).1.ks/\sfP K p q=q)\/((C4 K q).2=0/\¬(C4 K p).1.ks=(C4 K q).1.ks/\sfP K p q=W8 p)\/(¬(C4 K q).2=0/\sfP K p q=W8 p):=by
  unfold sfP
  by_cases c1:(C4 K q).2=0
  ·by_cases c2:(C4 K p).1.ks=(C4 K q).1.ks
   ·exact .inl ⟨c1,c2,if_pos ⟨c1,c2⟩⟩
   ·exact .inr (.inl ⟨c1,c2,if_neg λh=>c2 h.2⟩)
  ·exact .inr (.inr ⟨c1,if_neg λh=>c1 h.1⟩)
 clear hl1 hl2 h1 hpb hqb
 obtain⟨kp,hkp⟩:∃d,d=(C4 K p).1.d:=⟨_,rfl⟩
 obtain⟨kq,hkq⟩:∃d,d=(C4 K q).1.d:=⟨_,rfl⟩
 rw[<- hkp] at hCp hE
 rw[<- hkq] at hCq hE
 clear hkp hkq
 have hgL:=λrest=>j8 hg (A1J _) (λf=>R6 f _) rest
 clear hg
 obtain⟨ao,an,ak,ar,axo,axn,axv,axm,axd,adx,ady,ada,adi,a1,a2⟩:=Pl.cut p
 obtain⟨bo,bn,bk,br,bxo,bxn,bxv,bxm,bxd,bdx,bdy,bda,bdi,b1,b2⟩:=Pl.cut q
 obtain⟨co,cn,ck,cr,cxo,cxn,cxv,cxm,cxd,cdx,cdy,cda,cdi,c1,c2⟩:=Pl.cut (W8 p)
 have r0:axv.s=axv.s:=rfl
 have r1:axm=axm:=rfl
 have r2:bxv.s=bxv.s:=rfl
 have r3:bxm=bxm:=rfl
 rcases hs with ⟨s1,s2,s3⟩|⟨s1,s2,s3⟩|⟨s1,s3⟩
 ·rw[decide_eq_true s2] at hE
  rw[s1] at hCq
  rw[s3]
  clear s1 s2 s3 hL
  rw[a2] at hCp hgL ⊢
  rw[b2] at hCq hgL ⊢
  clear a1 a2 b1 b2 c1 c2
  refine A85.goX A6 rfl ?_
  repeat' first|refine st ?_|((with_reducible apply A4);conv=>whnf)|((with_reducible first|apply O8|apply O7);(·exact hgL _);(try rintro _ _ ⟨rfl,rfl⟩))|((with_reducible apply O9);(·exact hgL _))|refine⟨λ_=>?_,λ_=>?_⟩|fail
  all_goals exact⟨rfl,rfl⟩
 ·rw[decide_eq_false s2] at hE
  rw[s1] at hCq
  rw[s3]
  clear s1 s2 s3
  rw[c2] at hL ⊢
  rw[a2] at hCp hgL hL ⊢
  rw[b2] at hCq hgL
  clear a1 a2 b1 b2 c1 c2
  refine A85.goX A6 rfl ?_
  repeat' first|refine st ?_|((with_reducible apply A4);conv=>whnf)|((with_reducible first|apply O8|apply O7);(·exact hgL _);(try rintro _ _ ⟨rfl,rfl⟩))|((with_reducible apply O9);(·exact hgL _))|refine⟨λ_=>?_,λ_=>?_⟩|fail
  all_goals exact⟨rfl,rfl⟩
 ·obtain⟨e,he⟩:∃e,e=(C4 K q).2:=⟨_,rfl⟩
  rw[<- he] at hCq s1
  rw[s3]
  clear he s3
  rw[c2] at hL ⊢
  rw[a2] at hCp hgL hL ⊢
  rw[b2] at hCq hgL
  clear a1 a2 b1 b2 c1 c2 hE
  refine A85.goX A6 rfl ?_
  repeat' first|refine st ?_|((with_reducible apply A4);conv=>whnf)|((with_reducible first|apply O8|apply O7);(·exact hgL _);(try rintro _ _ ⟨rfl,rfl⟩))|((with_reducible apply O9);(·exact hgL _))|refine⟨λ_=>?_,λ_=>?_⟩|fail
  all_goals first|exact⟨rfl,rfl⟩|(exfalso;omega)
end Go.Proofs
end
section
namespace Go.Proofs
open Go.Bi
abbrev d25(e:Ex):Int:=(min 25 (G5 e):Nat)
mutual
/-- The greatest depth of a plan's expressions. -/
def dsP:Pl->Int
 |.mk o _ ins=>(A6G ins).foldl max ((o.xs.map d25).foldl max (d25 o.pred))
def A6G:List Pl->List Int
 |[]=>[]
 |p::r=>dsP p::A6G r
end
theorem B1N:∀l,A6G l=l.map dsP
 |[]=>by simp[A6G]
 |e::r=>by simp[A6G,B1N r]
theorem C63:∀p:Pl,p.bk<=1073741824->Pure Tryz.prog B96 [p.av] (.d (eI (dsP p))):=by
 refine Pl.ind λo ni ins ih hb=>?_
 have hB:=Pl.bd hb
 have hD:=B3V o.pred hB.pred
 have hX:=λ(e:Ex) (he:e∈o.xs)=>B3V e (hB.xb e he)
 have hq:dsP (.mk o ni ins)=(ins.map dsP).foldl max ((o.xs.map d25).foldl max (d25 o.pred)):=by rw[dsP,B1N]
 obtain⟨q,hqq⟩:∃q,q=dsP (.mk o ni ins):=⟨_,rfl⟩
 rw[<- hqq] at hq ⊢
 clear hqq
 have hil:=hB.il
 have hxl:=hB.xs
 have hsub:=hB.sub
 clear hB hb
 obtain⟨op,n,nk,ki,nr,rows,pred,nx,xs,ny,keys,na,aggs⟩:=o
 dsimp only at hD hX hq hxl
 have hD:Bi.Pure Tryz.prog A69 [pred.av] (.d (eI (d25 pred))):=hD
 have hX:∀e∈xs,Bi.Pure Tryz.prog A69 [e.av] (.d (eI (d25 e))):=hX
 obtain⟨s,hs⟩:∃s,s=d25 pred:=⟨_,rfl⟩
 rw[<- hs] at hD hq
 clear hs
 obtain⟨h,hh⟩:∃h:Ex->Int,h=d25:=⟨_,rfl⟩
 rw[<- hh] at hq
 have hX:∀e∈xs,Bi.Pure Tryz.prog A69 [e.av] (.d (eI (h e))):=by rw[hh];exact hX
 clear hh
 obtain⟨f,hf⟩:∃f,f=dsP:=⟨_,rfl⟩
 rw[<- hf] at hq ih
 clear hf
 obtain⟨xo,xn,xv,xm,xl,xa⟩:=pred
 have hav:(Pl.mk (⟨op,n,nk,ki,nr,rows,.mk xo xn xv xm xl xa,nx,xs,ny,keys,na,aggs⟩:Po) ni ins).av=G3 op n (ng nk (A5 ki)) (ng nr (B7 rows)) xo xn xv xm (ng xl (xL xa)) (ng nx (xL xs)) (ng ny (A5 keys)) (ng na (I0 aggs)) (ng ni (pL ins)):=Pl.av_eq _ _ _ _ _ _ _ _ _ rfl
 rw[hav]
 rw[Ex.av_mk] at hD
 have hdi:A9 (ng ni (pL ins)) (pL ins):=C7
 have hdx:A9 (ng nx (xL xs)) (xL xs):=C7
 obtain⟨dk,e1⟩:∃d,d=ng nk (A5 ki):=⟨_,rfl⟩
 obtain⟨dr,e2⟩:∃d,d=ng nr (B7 rows):=⟨_,rfl⟩
 obtain⟨dx,e3⟩:∃d,d=ng nx (xL xs):=⟨_,rfl⟩
 obtain⟨dy,e4⟩:∃d,d=ng ny (A5 keys):=⟨_,rfl⟩
 obtain⟨da,e5⟩:∃d,d=ng na (I0 aggs):=⟨_,rfl⟩
 obtain⟨di,e6⟩:∃d,d=ng ni (pL ins):=⟨_,rfl⟩
 obtain⟨xd,e7⟩:∃d,d=ng xl (xL xa):=⟨_,rfl⟩
 rw[<- e1,<- e2,<- e3,<- e4,<- e5,<- e6,<- e7]
 rw[<- e6] at hdi
 rw[<- e3] at hdx
 rw[<- e7] at hD
 clear e1 e2 e3 e4 e5 e6 e7 hav
 have l1:=b5 ins
 have m1:=e9 ins
 have g1:=λi p=>@j6 ins i p
 obtain⟨es,hes⟩:∃z,z=pL ins:=⟨_,rfl⟩
 rw[<- hes] at hdi l1 m1 g1
 clear hes
 have l2:=P0 xs
 have m2:=P2 xs
 have g2:=λi p=>@Y1 xs i p
 obtain⟨ys,hys⟩:∃z,z=xL xs:=⟨_,rfl⟩
 rw[<- hys] at hdx l2 m2 g2
 clear hys
 have r0:xv.k=xv.k:=rfl
 have r1:xv.s=xv.s:=rfl
 have r2:xm=xm:=rfl
 refine C83.go A6 rfl ?_
 repeat' first|refine st ?_|((with_reducible apply A4);conv=>whnf)|refine⟨λ_=>?_,λ_=>?_⟩|fail
 refine L6 A6 D17 C9Q (λ(i:Nat) (t:Int)=>[.d (eI t),.d (eI i)]) (λi t=>[.cells [.d (eI op),.d (eI n),.d dk,.d dr,.d (eI xo),.d (eI xn),.d (eI xv.k),.d (eI xv.n),.d (.str xv.s),.d (.str xm),.d xd,.d dx,.d dy,.d da,.d di]]) (λi t=>i<=xs.length/\t=((xs.take i).map h).foldl max s) (λi t=>xs.length-i) 0 s rfl rfl rfl rfl (λ_ _ _=>⟨rfl,rfl⟩) rfl ⟨by omega,rfl⟩ ?_
 repeat' first|refine st ?_|((with_reducible apply A4);conv=>whnf)|refine⟨λ_=>?_,λ_=>?_⟩|fail
 intro i t ⟨i1,i2⟩
 cases hi:xs[i]? with
 |some p=>
  have hlt:=(B4.1 hi).1
  have hil3:(i:Int)<ys.length:=by omega
  have hg:=g2 i p hi
  have hC:=hX p (C3 hi)
  have htk:((xs.take (i+1)).map h).foldl max s=max t (h p):=by rw[L8,hi,A44,A64,<- i2];rfl
  obtain⟨v,hv⟩:∃v,v=h p:=⟨_,rfl⟩
  rw[<- hv] at hC htk
  clear hv hi g1 g2 ih i2 hD hX
  obtain⟨x1,x2,x3,x4,x5,x6⟩:=p
  rw[Ex.av_mk] at hC
  rw[Ex.ds_mk] at hg
  have hg:ys[((i:Nat):Int).toNat]?=some (T5 x1 x2 x3 x4 (ng x5 (xL x6))):=hg
  obtain⟨z1,hz1⟩:∃d,d=ng x5 (xL x6):=⟨_,rfl⟩
  rw[<- hz1] at hC hg
  clear hz1
  have q0:x3.s=x3.s:=rfl
  have q1:x4=x4:=rfl
  repeat' first|refine st ?_|((with_reducible apply A4);conv=>whnf)|refine⟨λ_=>?_,λ_=>?_⟩|fail
  exact⟨i+1,max t v,rfl,rfl,rfl,by omega,by omega,htk.symm⟩
 |none=>
  have hge:=E9.1 hi
  have hil3:(ys.length:Int)<=i:=by omega
  rw[H4 hge] at i2
  rw[<- i2] at hq
  clear hi g2 hD hX i2
  repeat' first|refine st ?_|((with_reducible apply A4);conv=>whnf)|refine⟨λ_=>?_,λ_=>?_⟩|fail
  refine L6 A6 D18 C9R (λ(j:Nat) (u:Int)=>[.d (eI u),.d (eI j)]) (λj u=>[.cells [.d (eI op),.d (eI n),.d dk,.d dr,.d (eI xo),.d (eI xn),.d (eI xv.k),.d (eI xv.n),.d (.str xv.s),.d (.str xm),.d xd,.d dx,.d dy,.d da,.d di]]) (λj u=>j<=ins.length/\u=((ins.take j).map f).foldl max t) (λj u=>ins.length-j) 0 t rfl rfl rfl rfl (λ_ _ _=>⟨rfl,rfl⟩) rfl ⟨by omega,rfl⟩ ?_
  repeat' first|refine st ?_|((with_reducible apply A4);conv=>whnf)|refine⟨λ_=>?_,λ_=>?_⟩|fail
  intro j u ⟨j1,j2⟩
  cases hj:ins[j]? with
  |some p=>
   have hlt:=(B4.1 hj).1
   have hjl3:(j:Int)<es.length:=by omega
   have hg:=g1 j p hj
   have hC:=ih p (C3 hj) (hsub p (C3 hj))
   have htk:((ins.take (j+1)).map f).foldl max t=max u (f p):=by rw[L8,hj,A44,A64,<- j2];rfl
   obtain⟨op',n',dk',dr',xo',xn',xv',xm',xd',dx',dy',da',di',c1,c2⟩:=Pl.cut p
   have hg:es[((j:Nat):Int).toNat]?=some (K1 op' n' dk' dr' xo' xn' xv' xm' xd' dx' dy' da' di'):=by rw[<- c1];exact hg
   rw[c2] at hC
   obtain⟨v,hv⟩:∃v,v=f p:=⟨_,rfl⟩
   rw[<- hv] at hC htk
   clear c1 c2 hj g1 ih j2 hv
   repeat' first|refine st ?_|((with_reducible apply A4);conv=>whnf)|refine⟨λ_=>?_,λ_=>?_⟩|fail
   exact⟨j+1,max u v,rfl,rfl,rfl,by omega,by omega,htk.symm⟩
  |none=>
   have hge:=E9.1 hj
   have hjl3:(es.length:Int)<=j:=by omega
   rw[H4 hge,<- hq] at j2
   subst j2
   clear hj g1 ih
   repeat' first|refine st ?_|((with_reducible apply A4);conv=>whnf)|refine⟨λ_=>?_,λ_=>?_⟩|fail
   all_goals rfl
theorem D5I:∀p:Pl,dsP p<=8->Sd p:=by
 refine Pl.ind λo ni ins ih h=>?_
 rw[dsP,B1N] at h
 obtain⟨h1,h2⟩:=A94 _ _ _ h
 obtain⟨h3,_⟩:=A94 _ _ _ h1
 refine .mk (λ_=>?_) λx hx=>ih x hx (h2 _ (D7.2 ⟨x,hx,rfl⟩))
 have h3:((min 25 (G5 o.pred):Nat):Int)<=8:=h3
 omega
theorem C66(p:Pl)(hb:p.bk<=1073741824):Pure Tryz.prog B98 [p.av] (.d (.bool (decide (F5 p<=8)&&decide (dsP p<=8)))):=by
 have hD:=C5G p hb
 have hE:=C63 p hb
 have e:decide (F5 p<=8)=decide (((F5 p:Nat):Int)<=8):=by
  rw[decide_eq_decide];omega
 rw[e]
 obtain⟨a,ha⟩:∃a:Int,a=(F5 p:Nat):=⟨_,rfl⟩
 obtain⟨b,hb2⟩:∃b,b=dsP p:=⟨_,rfl⟩
 rw[<- ha] at hD ⊢
 rw[<- hb2] at hE ⊢
 clear ha hb2 hb e
 obtain⟨op,n,dk,dr,xo,xn,xv,xm,xd,dx,dy,da,di,c1,c2⟩:=Pl.cut p
 rw[c2] at hD hE ⊢
 clear c1 c2
 have r1:xv.s=xv.s:=rfl
 have r2:xm=xm:=rfl
 refine C86.go A6 rfl ?_
 by_cases h1:a<=8
 ·rw[decide_eq_true h1,Q4]
  repeat' first|refine st ?_|((with_reducible apply A4);conv=>whnf)|refine⟨λ_=>?_,λ_=>?_⟩|fail
  all_goals rfl
 ·rw[decide_eq_false h1,A4H]
  repeat' first|refine st ?_|((with_reducible apply A4);conv=>whnf)|refine⟨λ_=>?_,λ_=>?_⟩|fail
  all_goals rfl
theorem C67(e:Ex)(he:e.bk<=1073741824)(n:Int)(lf:Bool)(h:(lf=false->P9 n e=2)/\(lf=true->P9 n e≠0)):Pure Tryz.prog B99 [e.av,.d (eI n),.d (.bool lf)] (.d (.bool false)):=by
 have hC:=C5r e he
 have hcs:=A56 n e
 have hcl:=A58 e
 rw[A9v] at hC
 have hkl:=F9 (T2 e)
 obtain⟨ks,hk⟩:∃y,y=T2 e:=⟨_,rfl⟩
 rw[<- hk] at hC hcs hkl hcl
 clear hk
 obtain⟨o1,n1,v1,u1,b1,a1⟩:=e
 rw[Ex.av_mk] at hC ⊢
 obtain⟨z1,hz1⟩:∃d,d=ng b1 (xL a1):=⟨_,rfl⟩
 rw[<- hz1] at hC ⊢
 clear hz1
 have q0:v1.s=v1.s:=rfl
 have q1:u1=u1:=rfl
 rcases hcs with ⟨hc,hks0⟩|⟨y,z,hy,hz,hcc⟩
 ·exfalso
  cases lf with
  |false=>have:=h.1 rfl;omega
  |true=>exact h.2 rfl hc
 ·have hpos:=(B4.1 hz).1
  have hg1':(A5 ks)[(((A5 ks).length:Int)-1).toNat]?=some [eI y]:=by
   rw[hkl,show((ks.length:Int)-1).toNat=ks.length-1 by omega];exact N2 hy
  have hg3:(A5 ks)[(0:Int).toNat]?=some [eI z]:=N2 hz
  have hl0:((A5 ks).length:Int)≠0:=by omega
  have hl1:0<=((A5 ks).length:Int)-1/\((A5 ks).length:Int)-1<(A5 ks).length:=by omega
  have hl2:0<=(0:Int)/\(0:Int)<(A5 ks).length:=by omega
  have hm1:=I1 ks
  obtain⟨es,hes⟩:∃z,z=A5 ks:=⟨_,rfl⟩
  rw[<- hes] at hC hg1' hg3 hl0 hl1 hl2 hkl hm1
  clear hes hy hz
  cases lf with
  |false=>
   have h2:=h.1 rfl
   have hyn:¬y<n:=by omega
   have hzn:¬n<=z:=by omega
   clear h hcc h2
   refine B4v.go A6 rfl ?_
   repeat' first|refine st ?_|((with_reducible apply A4);conv=>whnf)|refine⟨λ_=>?_,λ_=>?_⟩|fail
   all_goals first|rfl|(rw[decide_eq_false hzn])|(exfalso;omega)
  |true=>
   have h2:=h.2 rfl
   have hyn:¬y<n:=by omega
   clear h hcc h2
   refine B4v.go A6 rfl ?_
   repeat' first|refine st ?_|((with_reducible apply A4);conv=>whnf)|refine⟨λ_=>?_,λ_=>?_⟩|fail
   all_goals first|rfl|(exfalso;omega)
end Go.Proofs
end
section
namespace Go.Proofs
open Go.Bi
theorem D5e:∀p:Pl,(W8 p).bk<=p.bk/\jn (W8 p)=jn p:=by
 refine Pl.ind λo ni ins ih=>?_
 rw[A8I]
 refine⟨C0g o ni ins λx hx=>(ih x hx).1,?_⟩
 rw[jn,jn]
 have:∀l:List Pl,(∀x∈l,jn (W8 x)=jn x)->W0 (l.map W8)=W0 l:=by
  intro l
  induction l with
  |nil=>intro _;rfl
  |cons a l ihl=>intro h;rw[H5,W0,W0,h a (by simp),ihl λb hb=>h b (by simp[hb])]
 rw[this ins λx hx=>(ih x hx).2]
theorem D5d{K:List Kw}:∀p:Pl,(C2 K p).2=0->(C2 K (W8 p)).2=0/\(C2 K (W8 p)).1.ks=(C2 K p).1.ks/\F5 (W8 p)<=F5 p:=by
 refine Pl.ind λo ni ins ih h0=>?_
 obtain⟨k1,k2,k3,k4,k5,k6⟩:=Z9 h0
 rw[A8I]
 obtain⟨n1,n2⟩:=B2v (Z4.cp o) (ni':=true) h0 λx hx=>⟨(ih x hx (k3 x hx)).1,(ih x hx (k3 x hx)).2.1⟩
 refine⟨n1,n2,?_⟩
 rw[F5,F5]
 have:=B1K (l:=ins) (Φ:=W8) λx hx=>(ih x hx (k3 x hx)).2.2
 omega
theorem D9n{K:List Kw}{p:Pl}(q:Pl)(h:(C4 K p).2=0):(C4 K (sfP K p q)).2=0/\(C4 K (sfP K p q)).1.ks=(C4 K p).1.ks:=by
 unfold sfP
 by_cases c:(C4 K q).2=0/\(C4 K p).1.ks=(C4 K q).1.ks
 ·rw[if_pos c];exact⟨c.1,c.2.symm⟩
 ·rw[if_neg c]
  obtain⟨h1,h2,h3⟩:=S2 h
  obtain⟨c1,c2,c3⟩:=D5d p h2
  rw[A1y (by omega),h3]
  exact⟨c1,c2⟩
theorem PlE.trans{I:List Bg}{p q r:Pl}(h:PlE I p q)(k:PlE I q r):PlE I p r:=
 ⟨k.e,k.ks.trans h.ks,k.ki.trans h.ki,k.rows.trans h.rows,k.sz.trans h.sz,A0I k.lg h.lg,k.sc.trans h.sc⟩
abbrev puP(K:List Kw)(p:Pl):Pl:=sfP K p (M9 K p)
theorem C3d{K:List Kw}{p:Pl}(h:(C4 K p).2=0):pw (M9 K p)<=pw p+552*jn p/\jn (M9 K p)=jn p:=by
 obtain⟨h1,h2,_⟩:=S2 h
 have h3:=B2P p 24 h1 h2
 omega
theorem D8N{K:List Kw}{p:Pl}(h:(C4 K p).2=0):(puP K p).bk<=pw p+552*jn p/\pw (puP K p)<=4*p.bk+552*jn p/\jn (puP K p)=jn p:=by
 have h3:=A07 p
 unfold puP sfP
 split
 ·have h1:=C3d h
  have h2:=A07 (M9 K p)
  omega
 ·have h1:=D5e p
  have h2:=A07 (W8 p)
  omega
theorem D8O{I:List Bg}(hI:InG I){p:Pl}(hb:pw p+552*jn p<=1073741824)(h:(C4 (D2 I) p).2=0)(hl:N7 (H3 I) p<=2000):PlE I p (puP (D2 I) p):=by
 obtain⟨h1,h0,_⟩:=S2 h
 have h4:=A07 p
 unfold puP sfP
 split
 ·rename_i c
  exact D8L hI p h1 (by omega) h0 hl c.1
 ·exact(D5f hI p (by omega) h0 hl).toPlE
theorem C4Q(K:List Kw)(hK:K.length<=4294967296)(hKb:∀k∈K,k.ks.length<=4294967296)(din:D)(hin:A9 din (E7 K))(p:Pl)(hb:pw p+552*jn p+23<=1073741824)(h:(C4 K p).2=0):Pure Tryz.prog A6d [p.av,.d din] (puP K p).av:=by
 have h4:=A07 p
 have h5:=A07 (M9 K p)
 have h6:=C3d h
 have hS:=C6p K hK hKb din hin S7 p (M9 K p) (by omega) (by omega) (C5l K hK hKb din hin p (S2 h).1 (by omega) (S2 h).2.1) h
 have hm1:∀(ds:List D) n,[AV.ptr 0 0,.agg (ds.map .d),.bcl S7 0].map (mG (rn [2] n))=[.ptr 2 0,.agg (ds.map .d),.bcl S7 2]:=λds n=>by
  rw[H5,H5,H5,V7,A2P];rfl
 have hSL:=λos (ho:os[2]?=some (AO.cells [.d din]))=>A3O 2 hS (hm1 p.ds) (λa ha=>by
  simp only[H2,U2,or_false] at ha
  rcases ha with rfl|rfl|rfl
  ·simp[AV.bnd2,AV.bnd1]
  ·exact A08 _ _
  ·simp[AV.bnd2,AV.bnd1]) (λf=>R6 f _) os ho
 have hSL:∀os:List AO,os[2]?=some (AO.cells [.d din])->B9 Tryz.prog A4Q [.ptr 2 0,.agg (p.ds.map .d),.bcl S7 2] os (λr' os'=>r'=(puP K p).av/\os'=os):=hSL
 obtain⟨q,hq⟩:∃q,q=puP K p:=⟨_,rfl⟩
 rw[<- hq] at hSL ⊢
 clear hS hm1 hq h4 h5 h6 h hb
 obtain⟨ao,an,ak,ar,axo,axn,axv,axm,axd,adx,ady,ada,adi,a1,a2⟩:=Pl.cut p
 obtain⟨bo,bn,bk',br,bxo,bxn,bxv,bxm,bxd,bdx,bdy,bda,bdi,b1,b2⟩:=Pl.cut q
 have hSL:∀os:List AO,os[2]?=some (AO.cells [.d din])->B9 Tryz.prog A4Q [.ptr 2 0,G3 ao an ak ar axo axn axv axm axd adx ady ada adi,.bcl S7 2] os (λr' os'=>r'=G3 bo bn bk' br bxo bxn bxv bxm bxd bdx bdy bda bdi/\os'=os):=λos ho=>by
  have:=hSL os ho
  rw[a1] at this
  rw[<- b2]
  exact this
 rw[a2,b2]
 clear a1 a2 b1 b2
 have r0:axv.s=axv.s:=rfl
 have r1:axm=axm:=rfl
 have r2:bxv.s=bxv.s:=rfl
 have r3:bxm=bxm:=rfl
 refine B4y.go A6 rfl ?_
 repeat' first|refine st ?_|((with_reducible apply A4);conv=>whnf)|((with_reducible first|apply O8|apply O7);(·exact hSL _ rfl);(try rintro _ _ ⟨rfl,rfl⟩))|((with_reducible apply O9);(·exact hSL _ rfl))|refine⟨λ_=>?_,λ_=>?_⟩|fail
 all_goals rfl
end Go.Proofs
end
section
namespace Go.Proofs
open Go.Bi
theorem B0k(K:List Kw)(hK:K.length<=4294967296)(hKb:∀k∈K,k.ks.length<=4294967296)(din:D)(hin:A9 din (E7 K))(o:Po)(ni:Bool)(ins:List Pl)(hb:(Pl.mk o ni ins).bk<=1073741824)(hs:∀x∈ins,Pure Tryz.prog A6b [x.av,.d din] (.d (.bool true)))
  (hc:o.op≠3\/∃y,ins=[y]/\((y.op≠5/\y.op≠6)\/∃o' ni' a b lf,y=.mk o' ni' [a,b]/\(o'.op=if lf then 6 else 5)/\(C4 K a).2=0/\∀c∈cj o.pred,(lf=false->P9 (F8 K a) c=2)/\(lf=true->P9 (F8 K a) c≠0))) :
  Pure Tryz.prog A6b [(Pl.mk o ni ins).av,.d din] (.d (.bool true)):=by
 have hB:=Pl.bd hb
 have hil:=hB.il
 have hJ:=C5F o.pred hB.pred
 have hjl:=A3n o.pred
 have hjb:=B1C o.pred
 have hpb:=hB.pred
 have hsub:=hB.sub
 clear hB hb
 obtain⟨op,n,nk,ki,nr,rows,pred,nx,xs,ny,keys,na,aggs⟩:=o
 dsimp only at hJ hjl hjb hpb hc
 obtain⟨xo,xn,xv,xm,xl,xa⟩:=pred
 have hav:(Pl.mk (⟨op,n,nk,ki,nr,rows,.mk xo xn xv xm xl xa,nx,xs,ny,keys,na,aggs⟩:Po) ni ins).av=G3 op n (ng nk (A5 ki)) (ng nr (B7 rows)) xo xn xv xm (ng xl (xL xa)) (ng nx (xL xs)) (ng ny (A5 keys)) (ng na (I0 aggs)) (ng ni (pL ins)):=Pl.av_eq _ _ _ _ _ _ _ _ _ rfl
 rw[hav]
 rw[Ex.av_mk] at hJ
 have hdi:A9 (ng ni (pL ins)) (pL ins):=C7
 obtain⟨J,hJe⟩:∃z,z=cj (.mk xo xn xv xm xl xa):=⟨_,rfl⟩
 rw[<- hJe] at hJ hjl hjb hc
 clear hJe
 obtain⟨dk,e1⟩:∃d,d=ng nk (A5 ki):=⟨_,rfl⟩
 obtain⟨dr,e2⟩:∃d,d=ng nr (B7 rows):=⟨_,rfl⟩
 obtain⟨dx,e3⟩:∃d,d=ng nx (xL xs):=⟨_,rfl⟩
 obtain⟨dy,e4⟩:∃d,d=ng ny (A5 keys):=⟨_,rfl⟩
 obtain⟨da,e5⟩:∃d,d=ng na (I0 aggs):=⟨_,rfl⟩
 obtain⟨di,e6⟩:∃d,d=ng ni (pL ins):=⟨_,rfl⟩
 obtain⟨xd,e7⟩:∃d,d=ng xl (xL xa):=⟨_,rfl⟩
 rw[<- e1,<- e2,<- e3,<- e4,<- e5,<- e6,<- e7]
 rw[<- e6] at hdi
 rw[<- e7] at hJ
 clear e1 e2 e3 e4 e5 e6 e7 hav
 have l1:=b5 ins
 have m1:=e9 ins
 have g1:=λi p=>@j6 ins i p
 obtain⟨es,hes⟩:∃z,z=pL ins:=⟨_,rfl⟩
 rw[<- hes] at hdi l1 m1 g1
 have r0:xv.k=xv.k:=rfl
 have r1:xv.s=xv.s:=rfl
 have r2:xm=xm:=rfl
 refine C84.go A6 rfl ?_
 repeat' first|refine st ?_|((with_reducible apply A4);conv=>whnf)|refine⟨λ_=>?_,λ_=>?_⟩|fail
 refine K6 A6 D19 C9S (λ(i:Nat)=>[.d (eI i)]) (λi=>[.cells [.d (eI op),.d (eI n),.d dk,.d dr,.d (eI xo),.d (eI xn),.d (eI xv.k),.d (eI xv.n),.d (.str xv.s),.d (.str xm),.d xd,.d dx,.d dy,.d da,.d di]]) (λi=>i<=ins.length) (λi=>ins.length-i) 0 rfl rfl rfl rfl (λ_ _=>⟨rfl,rfl⟩) rfl (by omega) ?_
 repeat' first|refine st ?_|((with_reducible apply A4);conv=>whnf)|refine⟨λ_=>?_,λ_=>?_⟩|fail
 intro i i1
 cases hi:ins[i]? with
 |some p=>
  have hlt:=(B4.1 hi).1
  have hil3:(i:Int)<es.length:=by omega
  have hg:=g1 i p hi
  have hC:=hs p (C3 hi)
  obtain⟨op',n',dk',dr',xo',xn',xv',xm',xd',dx',dy',da',di',c1,c2⟩:=Pl.cut p
  have hg:es[((i:Nat):Int).toNat]?=some (K1 op' n' dk' dr' xo' xn' xv' xm' xd' dx' dy' da' di'):=by rw[<- c1];exact hg
  rw[c2] at hC
  clear c1 c2 hi g1 hs hc hJ
  repeat' first|refine st ?_|((with_reducible apply A4);conv=>whnf)|refine⟨λ_=>?_,λ_=>?_⟩|fail
  exact⟨i+1,rfl,rfl,rfl,by omega,by omega⟩
 |none=>
  have hge:=E9.1 hi
  have hil3:(es.length:Int)<=i:=by omega
  clear hi g1 hs
  rcases hc with hc|⟨y,rfl,hc⟩
  ·clear hes
   repeat' first|refine st ?_|((with_reducible apply A4);conv=>whnf)|refine⟨λ_=>?_,λ_=>?_⟩|fail
   all_goals first|rfl|(exfalso;omega)
  ·have hy:es=[y.ds]:=by rw[hes];rfl
   rw[hes] at hil3
   rcases hdi with ⟨_,h0⟩|hdi
   ·rw[hy] at h0;cases h0
   subst hdi
   rw[hy] at l1 m1 ⊢
   have hil3:(([y.ds]:List (List D)).length:Int)<=i:=hil3
   clear hes hy es
   by_cases h3:op=3
   rotate_left
   ·repeat' first|refine st ?_|((with_reducible apply A4);conv=>whnf)|refine⟨λ_=>?_,λ_=>?_⟩|fail
    all_goals first|rfl|(exfalso;omega)
   subst h3
   rcases hc with ⟨h5,h6⟩|⟨o',ni',a,b,lf,rfl,ho',hac,hm⟩
   ·have hop:y.op=y.op:=rfl
    obtain⟨oy,niy,insy⟩:=y
    have h5:oy.op≠5:=h5
    have h6:oy.op≠6:=h6
    obtain⟨op',n',nk',ki',nr',rows',⟨yo,yn,yv,ym,yl,ya⟩,nx',xs',ny',keys',na',aggs'⟩:=oy
    dsimp only at h5 h6
    have hds:(Pl.mk (⟨op',n',nk',ki',nr',rows',.mk yo yn yv ym yl ya,nx',xs',ny',keys',na',aggs'⟩:Po) niy insy).ds=K1 op' n' (ng nk' (A5 ki')) (ng nr' (B7 rows')) yo yn yv ym (ng yl (xL ya)) (ng nx' (xL xs')) (ng ny' (A5 keys')) (ng na' (I0 aggs')) (ng niy (pL insy)):=Pl.ds_eq _ _ _ _ _ _ _ _ _ rfl
    rw[hds] at l1 m1 hil3 ⊢
    have q0:yv.k=yv.k:=rfl
    have q1:yv.s=yv.s:=rfl
    have q2:ym=ym:=rfl
    clear hds hop hsub hJ hjb hjl
    repeat' first|refine st ?_|((with_reducible apply A4);conv=>whnf)|refine⟨λ_=>?_,λ_=>?_⟩|fail
    all_goals first|rfl|(exfalso;omega)
   ·have hab:a.bk<=1073741824:=by
     have h1:=hsub _ (M7.2 rfl)
     exact(Pl.bd h1).sub a (by simp)
    have hC:=A5W K hK hKb din hin a hab
    rw[hac] at hC
    have hkl:=F9 (C4 K a).1.ks
    have hkd:A9 (C4 K a).1.d (A5 (C4 K a).1.ks):=C7
    have hm:∀c∈J,(lf=false->P9 ((A5 (C4 K a).1.ks).length:Nat) c=2)/\(lf=true->P9 ((A5 (C4 K a).1.ks).length:Nat) c≠0):=by rw[hkl];exact hm
    obtain⟨kd,hkde⟩:∃d,d=(C4 K a).1.d:=⟨_,rfl⟩
    obtain⟨ke,hkee⟩:∃d,d=A5 (C4 K a).1.ks:=⟨_,rfl⟩
    have hkm:=I1 (C4 K a).1.ks
    rw[<- hkde] at hC hkd
    rw[<- hkee] at hkd hm hkm
    clear hkde hkl hkee hac
    obtain⟨op',n',nk',ki',nr',rows',pred',nx',xs',ny',keys',na',aggs'⟩:=o'
    dsimp only at ho'
    obtain⟨yo,yn,yv,ym,yl,ya⟩:=pred'
    have hds:(Pl.mk (⟨op',n',nk',ki',nr',rows',.mk yo yn yv ym yl ya,nx',xs',ny',keys',na',aggs'⟩:Po) ni' [a,b]).ds=K1 op' n' (ng nk' (A5 ki')) (ng nr' (B7 rows')) yo yn yv ym (ng yl (xL ya)) (ng nx' (xL xs')) (ng ny' (A5 keys')) (ng na' (I0 aggs')) (ng ni' (pL [a,b])):=Pl.ds_eq _ _ _ _ _ _ _ _ _ rfl
    have e1:ng ni' (pL [a,b])=.sl [a.ds,b.ds]:=by cases ni'<;>rfl
    rw[e1] at hds
    rw[hds] at l1 m1 hil3 ⊢
    clear e1 hds hsub
    obtain⟨gk,e1⟩:∃d,d=ng nk' (A5 ki'):=⟨_,rfl⟩
    obtain⟨gr,e2⟩:∃d,d=ng nr' (B7 rows'):=⟨_,rfl⟩
    obtain⟨gx,e3⟩:∃d,d=ng nx' (xL xs'):=⟨_,rfl⟩
    obtain⟨gy,e4⟩:∃d,d=ng ny' (A5 keys'):=⟨_,rfl⟩
    obtain⟨ga,e5⟩:∃d,d=ng na' (I0 aggs'):=⟨_,rfl⟩
    obtain⟨yd,e7⟩:∃d,d=ng yl (xL ya):=⟨_,rfl⟩
    rw[<- e1,<- e2,<- e3,<- e4,<- e5,<- e7] at l1 m1 hil3 ⊢
    clear e1 e2 e3 e4 e5 e7
    obtain⟨ao,an,ak,ar,axo,axn,axv,axm,axd,adx,ady,ada,adi,a1,a2⟩:=Pl.cut a
    obtain⟨bo,bn,bk',br,bxo,bxn,bxv,bxm,bxd,bdx,bdy,bda,bdi,b1,b2⟩:=Pl.cut b
    rw[a1,b1] at l1 m1 hil3 ⊢
    rw[a2] at hC
    clear a1 a2 b1 b2
    have q0:yv.k=yv.k:=rfl
    have q1:yv.s=yv.s:=rfl
    have q2:ym=ym:=rfl
    have l2:=P0 J
    have m2:=P2 J
    have g2:=λi p=>@Y1 J i p
    obtain⟨fs,hfs⟩:∃z,z=xL J:=⟨_,rfl⟩
    rw[<- hfs] at hJ l2 m2 g2
    clear hfs
    have hM:=λc (hc:c∈J)=>C67 c (by have:=hjb c hc;omega) (ke.length:Nat) lf (hm c hc)
    clear hm
    obtain⟨lop,hlop⟩:∃z:Int,z=if lf then 6 else 5:=⟨_,rfl⟩
    rw[<- hlop] at ho'
    subst ho'
    cases lf with
    |false=>
     have hlop:op'=5:=hlop
     subst hlop
     repeat' first|refine st ?_|((with_reducible apply A4);conv=>whnf)|refine⟨λ_=>?_,λ_=>?_⟩|fail
     refine K6 A6 B7J B7A (λ(j:Nat)=>[.d (eI j)]) (λj=>[.cells [.d (eI 3),.d (eI n),.d dk,.d dr,.d (eI xo),.d (eI xn),.d (eI xv.k),.d (eI xv.n),.d (.str xv.s),.d (.str xm),.d xd,.d dx,.d dy,.d da,.d (.sl [K1 5 n' gk gr yo yn yv ym yd gx gy ga (.sl [K1 ao an ak ar axo axn axv axm axd adx ady ada adi,K1 bo bn bk' br bxo bxn bxv bxm bxd bdx bdy bda bdi])])],.cells [.d (eI 5),.d (eI n'),.d gk,.d gr,.d (eI yo),.d (eI yn),.d (eI yv.k),.d (eI yv.n),.d (.str yv.s),.d (.str ym),.d yd,.d gx,.d gy,.d ga,.d (.sl [K1 ao an ak ar axo axn axv axm axd adx ady ada adi,K1 bo bn bk' br bxo bxn bxv bxm bxd bdx bdy bda bdi])]]) (λj=>j<=J.length) (λj=>J.length-j) 0 rfl rfl rfl rfl (λ_ _=>⟨rfl,rfl⟩) rfl (by omega) ?_
     repeat' first|refine st ?_|((with_reducible apply A4);conv=>whnf)|refine⟨λ_=>?_,λ_=>?_⟩|fail
     intro j j1
     cases hj:J[j]? with
     |some c=>
      have hlt:=(B4.1 hj).1
      have hjl3:(j:Int)<fs.length:=by omega
      have hg:=g2 j c hj
      have hMc:=hM c (C3 hj)
      clear hj g2 hM hC hJ
      obtain⟨x1,x2,x3,x4,x5,x6⟩:=c
      rw[Ex.av_mk] at hMc
      rw[Ex.ds_mk] at hg
      have hg:fs[((j:Nat):Int).toNat]?=some (T5 x1 x2 x3 x4 (ng x5 (xL x6))):=hg
      obtain⟨z1,hz1⟩:∃d,d=ng x5 (xL x6):=⟨_,rfl⟩
      rw[<- hz1] at hMc hg
      clear hz1
      have q3:x3.s=x3.s:=rfl
      have q4:x4=x4:=rfl
      repeat' first|refine st ?_|((with_reducible apply A4);conv=>whnf)|refine⟨λ_=>?_,λ_=>?_⟩|fail
      exact⟨j+1,rfl,rfl,rfl,by omega,by omega⟩
     |none=>
      have hge:=E9.1 hj
      have hjl3:(fs.length:Int)<=j:=by omega
      clear hj g2 hM hC hJ
      repeat' first|refine st ?_|((with_reducible apply A4);conv=>whnf)|refine⟨λ_=>?_,λ_=>?_⟩|fail
      all_goals rfl
    |true=>
     have hlop:op'=6:=hlop
     subst hlop
     repeat' first|refine st ?_|((with_reducible apply A4);conv=>whnf)|refine⟨λ_=>?_,λ_=>?_⟩|fail
     refine K6 A6 B7J B7A (λ(j:Nat)=>[.d (eI j)]) (λj=>[.cells [.d (eI 3),.d (eI n),.d dk,.d dr,.d (eI xo),.d (eI xn),.d (eI xv.k),.d (eI xv.n),.d (.str xv.s),.d (.str xm),.d xd,.d dx,.d dy,.d da,.d (.sl [K1 6 n' gk gr yo yn yv ym yd gx gy ga (.sl [K1 ao an ak ar axo axn axv axm axd adx ady ada adi,K1 bo bn bk' br bxo bxn bxv bxm bxd bdx bdy bda bdi])])],.cells [.d (eI 6),.d (eI n'),.d gk,.d gr,.d (eI yo),.d (eI yn),.d (eI yv.k),.d (eI yv.n),.d (.str yv.s),.d (.str ym),.d yd,.d gx,.d gy,.d ga,.d (.sl [K1 ao an ak ar axo axn axv axm axd adx ady ada adi,K1 bo bn bk' br bxo bxn bxv bxm bxd bdx bdy bda bdi])]]) (λj=>j<=J.length) (λj=>J.length-j) 0 rfl rfl rfl rfl (λ_ _=>⟨rfl,rfl⟩) rfl (by omega) ?_
     repeat' first|refine st ?_|((with_reducible apply A4);conv=>whnf)|refine⟨λ_=>?_,λ_=>?_⟩|fail
     intro j j1
     cases hj:J[j]? with
     |some c=>
      have hlt:=(B4.1 hj).1
      have hjl3:(j:Int)<fs.length:=by omega
      have hg:=g2 j c hj
      have hMc:=hM c (C3 hj)
      clear hj g2 hM hC hJ
      obtain⟨x1,x2,x3,x4,x5,x6⟩:=c
      rw[Ex.av_mk] at hMc
      rw[Ex.ds_mk] at hg
      have hg:fs[((j:Nat):Int).toNat]?=some (T5 x1 x2 x3 x4 (ng x5 (xL x6))):=hg
      obtain⟨z1,hz1⟩:∃d,d=ng x5 (xL x6):=⟨_,rfl⟩
      rw[<- hz1] at hMc hg
      clear hz1
      have q3:x3.s=x3.s:=rfl
      have q4:x4=x4:=rfl
      repeat' first|refine st ?_|((with_reducible apply A4);conv=>whnf)|refine⟨λ_=>?_,λ_=>?_⟩|fail
      exact⟨j+1,rfl,rfl,rfl,by omega,by omega⟩
     |none=>
      have hge:=E9.1 hj
      have hjl3:(fs.length:Int)<=j:=by omega
      clear hj g2 hM hC hJ
      repeat' first|refine st ?_|((with_reducible apply A4);conv=>whnf)|refine⟨λ_=>?_,λ_=>?_⟩|fail
      all_goals rfl
end Go.Proofs
end
section
namespace Go.Proofs
open Go.Bi
theorem C64(K:List Kw)(hK:K.length<=4294967296)(hKb:∀k∈K,k.ks.length<=4294967296)(din:D)(hin:A9 din (E7 K)):∀{q:Pl},NF K q->(C4 K q).2=0->q.bk<=1073741824->Pure Tryz.prog A6b [q.av,.d din] (.d (.bool true)):=by
 intro q hq
 have key:∀(o:Po) (ni:Bool) (ins:List Pl),(C4 K (.mk o ni ins)).2=0->∀x∈ins,(C4 K x).2=0:=λo ni ins h0 x hx=>by
  obtain⟨h1,h2,_⟩:=S2 h0
  rw[F5] at h1
  have:=A3s hx
  rw[A1y (by omega)]
  exact(Z9 h2).2.2.1 x hx
 induction hq with
 |@leaf o ni ins h hs ih=>
  intro h0 hb
  exact B0k K hK hKb din hin o ni ins hb (λx hx=>ih x hx (key o ni ins h0 x hx) ((Pl.bd hb).sub x hx)) (.inl h.1)
 |@join o ni a b h ha hb' iha ihb=>
  intro h0 hb
  refine B0k K hK hKb din hin o ni [a,b] hb (λx hx=>?_) (.inl (by omega))
  have h1:=key o ni _ h0 x hx
  have h2:=(Pl.bd hb).sub x hx
  simp only[H2,U2,or_false] at hx
  rcases hx with rfl|rfl
  ·exact iha h1 h2
  ·exact ihb h1 h2
 |@filt o ni y lp h hy h3 hp hlp hc hr ih=>
  intro h0 hb
  have hy0:=key o ni _ h0 y (by simp)
  refine B0k K hK hKb din hin o ni [y] hb (λx hx=>?_) (.inr ⟨y,rfl,?_⟩)
  ·have h2:=(Pl.bd hb).sub x hx
   rw[M7.1 hx] at h2 ⊢
   exact ih hy0 h2
  ·have hcj2:cj o.pred=lp:=by rw[hp,A2K (λc hm=>(hc c hm).flat) hlp]
   rw[hcj2]
   have hst:=hr hy0
   cases hy with
   |leaf g _=>exact .inl ⟨g.2.1,g.2.2⟩
   |@join o' ni' a b g _ _=>
    right
    rcases g with g|g
    ·exact⟨o',ni',a,b,false,rfl,g,(A2b hy0).1,λc hm=>⟨λ_=>(hst c hm).1 g,λe=>by cases e⟩⟩
    ·exact⟨o',ni',a,b,true,rfl,g,(A2b hy0).1,λc hm=>⟨λe=>(by cases e),λ_=>(hst c hm).2 g⟩⟩
   |filt g _ _ _ _ _ _=>exact absurd g h3
theorem C8V(p:Pl)(hp:p.bk<=1024*1024)(I:List Bg)(hI:I.length<=1073741824)(hb:∀b∈I,b.ki.length<=1073741824/\b.rows.length<=1073741824/\∀r∈b.rows,r.vs.length<=1073741824/\∀v∈r.vs,v.s.length<=1073741824)(din:D)(hin:A9 din (V2 I)) :
  Pure Tryz.prog B7U [p.av,.d din] (.d (.bool true)):=by
 have hW:=C54
 have hR:=C58 I hI hb din hin p (by omega)
 cases hr:rnB I p with
 |false=>
  rw[hr] at hR
  obtain⟨op',n',dk',dr',xo',xn',xv',xm',xd',dx',dy',da',di',c1,c2⟩:=Pl.cut p
  rw[c2] at hR ⊢
  clear c1 c2 hr
  refine B0q.go A6 rfl ?_
  repeat' first|refine st ?_|((with_reducible apply A4);conv=>whnf)|refine⟨λ_=>?_,λ_=>?_⟩|fail
  all_goals rfl
 |true=>
  rw[hr] at hR
  unfold rnB at hr
  rw[K7,K7] at hr
  obtain⟨⟨h1,h2⟩,h3⟩:=hr
  have h1:=of_decide_eq_true h1
  have h3:=of_decide_eq_true h3
  have hG:=E01 h2
  have hjb:=A07 p
  have hpu:=D8N h1
  have hE:=D8O hG (by omega) h1 h3
  have hq0:(C4 (D2 I) (puP (D2 I) p)).2=0:=(D9n _ h1).1
  have hKb:∀k∈D2 I,k.ks.length<=4294967296:=λk hk=>by
   obtain⟨b,hb1,rfl⟩:=D7.1 hk
   have:=(hb b hb1).1
   show b.ki.length<=4294967296
   omega
  have hKl:(D2 I).length<=4294967296:=by rw[D8];omega
  have hKs:=B0h I (by omega) din hin
  have hF:=C4Q (D2 I) hKl hKb (.sl (E7 (D2 I))) (.inr rfl) p (by omega) h1
  have hQ:=C55 hI hb hG din hin p (puP (D2 I) p) (by omega) h1 h3 (by omega) hq0 hE
  have hS:=C66 p (by omega)
  have hP:(decide (F5 p<=8)&&decide (dsP p<=8))=true->Bi.Pure Tryz.prog A6b [(puP (D2 I) p).av,.d (.sl (E7 (D2 I)))] (.d (.bool true)):=λhs=>by
   rw[K7] at hs
   have hs1:=of_decide_eq_true hs.1
   have hs2:=of_decide_eq_true hs.2
   have hj:=D6N p
   obtain⟨a1,a2,_⟩:=D8K p (S2 h1).2.1 (D5I p hs2) (by omega) (by omega)
   have e:puP (D2 I) p=M9 (D2 I) p:=if_pos ⟨a1,by rw[(S2 h1).2.2,(S2 a1).2.2,a2]⟩
   have hb2:(M9 (D2 I) p).bk<=1073741824:=by rw[<- e];omega
   rw[e]
   exact C64 (D2 I) hKl hKb _ (.inr rfl) (A7j p (S2 h1).2.1) a1 hb2
  obtain⟨sm,hsm⟩:∃s,s=(decide (F5 p<=8)&&decide (dsP p<=8)):=⟨_,rfl⟩
  rw[<- hsm] at hS hP
  obtain⟨q,hq⟩:∃q,q=puP (D2 I) p:=⟨_,rfl⟩
  rw[<- hq] at hF hQ hP
  obtain⟨z,hz⟩:∃z,z=E7 (D2 I):=⟨_,rfl⟩
  rw[<- hz] at hKs hF hP
  clear hq hz hsm h1 h2 h3 hG hE hq0 hKb hKl hpu hjb hb
  obtain⟨op,n,dk,dr,xo,xn,xv,xm,xd,dx,dy,da,di,c1,c2⟩:=Pl.cut p
  obtain⟨op',n',dk',dr',xo',xn',xv',xm',xd',dx',dy',da',di',c3,c4⟩:=Pl.cut q
  rw[c2] at hR hF hQ hS ⊢
  rw[c4] at hF hQ hP
  clear c1 c2 c3 c4
  have r1:xv.s=xv.s:=rfl
  have r2:xm=xm:=rfl
  have r3:xv'.s=xv'.s:=rfl
  have r4:xm'=xm':=rfl
  cases sm with
  |false=>
   clear hP
   refine B0q.go A6 rfl ?_
   repeat' first|refine st ?_|((with_reducible apply A4);conv=>whnf)|refine⟨λ_=>?_,λ_=>?_⟩|fail
   all_goals rfl
  |true=>
   have hP:=hP rfl
   refine B0q.go A6 rfl ?_
   repeat' first|refine st ?_|((with_reducible apply A4);conv=>whnf)|refine⟨λ_=>?_,λ_=>?_⟩|fail
   all_goals rfl
end Go.Proofs
end
section
namespace Go.Proofs
open Go.Bi
abbrev B9T:TypeId:=23
abbrev B9N:TypeId:=99
abbrev B9O:TypeId:=29
abbrev A8t:TypeId:=32
abbrev B9S:TypeId:=30
abbrev B9P:TypeId:=43
abbrev B9Q:TypeId:=33
theorem C0u:Tryz.prog.cellsOf B9T=1:=by kernel_rfl
theorem D52:Tryz.prog.cellsOf B9N=2:=by kernel_rfl
theorem D53:Tryz.prog.cellsOf B9O=1:=by kernel_rfl
theorem D55:Tryz.prog.cellsOf A8t=15:=by kernel_rfl
theorem D56:Tryz.prog.cellsOf B9S=1:=by kernel_rfl
theorem D54:Tryz.prog.cellsOf B9P=2:=by kernel_rfl
theorem C0t:Tryz.prog.cellsOf B1o=1:=by kernel_rfl
theorem A9K{d:D}{es:List (List D)}(h:A9 d es):∃nl,d=ng nl es:=by
 rcases h with ⟨rfl,rfl⟩|rfl
 ·exact⟨true,rfl⟩
 ·exact⟨false,rfl⟩
theorem B3s{ds:List D}(h:WT Tryz.prog B1o ds):∃nl ks,ds=[ng nl (A5 ks)]:=by
 obtain⟨d,ks,h1,h2⟩:=E0e h
 obtain⟨nl,h3⟩:=A9K h2
 exact⟨nl,ks,by rw[h1,h3]⟩
theorem C4n{ds:List D}(h:WT Tryz.prog B9T ds):∃nl l,ds=[ng nl (B7 l)]:=by
 obtain⟨d,es,h1,h2,h4,h3⟩:=h.sl' Tryz.underlying23
 have:∃c,es=B7 c:=by
  clear h1 h2 h4
  induction es with
  |nil=>exact⟨[],rfl⟩
  |cons x es ih=>
   obtain⟨d,row,hn,hs⟩:=E0h (h3 x (by simp))
   obtain⟨nl,hd⟩:=A9K hs
   obtain⟨ks,hk⟩:=ih λy hy=>h3 y (by simp[hy])
   exact⟨⟨nl,row⟩::ks,by rw[hn,hk,hd];rfl⟩
 obtain⟨c,rfl⟩:=this
 obtain⟨nl,h5⟩:=A9K h2
 exact⟨nl,c,by rw[h1,h5]⟩
theorem E08{ds:List D}(h:WT Tryz.prog B9N ds):∃a:Ag,ds=a.ds:=by
 obtain⟨hl,hf⟩:=h.st' Tryz.underlying99
 rw[D52] at hl
 match ds,hl with
 |[d0,d1],_=>
  have h0:=hf _ (W5 ..)
  have h1:=hf _ (I2 _ (W5 ..))
  dsimp only at h0 h1
  rw[A8D] at h0 h1
  obtain⟨a,h0⟩:=A35 h0
  obtain⟨b,h1⟩:=A35 h1
  simp at h0 h1
  exact⟨⟨a,b⟩,by rw[h0,h1]⟩
theorem E09{ds:List D}(h:WT Tryz.prog B9O ds):∃nl l,ds=[ng nl (I0 l)]:=by
 obtain⟨d,es,h1,h2,h4,h3⟩:=h.sl' Tryz.underlying29
 have:∃c,es=I0 c:=by
  clear h1 h2 h4
  induction es with
  |nil=>exact⟨[],rfl⟩
  |cons x es ih=>
   obtain⟨a,hn⟩:=E08 (h3 x (by simp))
   obtain⟨ks,hk⟩:=ih λy hy=>h3 y (by simp[hy])
   exact⟨a::ks,by rw[hn,hk];rfl⟩
 obtain⟨c,rfl⟩:=this
 obtain⟨nl,h5⟩:=A9K h2
 exact⟨nl,c,by rw[h1,h5]⟩
theorem E0d{ds:List D}(h:WT Tryz.prog B1n ds):∃nl l,ds=[ng nl (xL l)]:=by
 obtain⟨nl,args,e⟩:=(C4m h).2 rfl
 exact⟨nl,args,e⟩
theorem E0g{t:TypeId}{ds:List D}(h:WT Tryz.prog t ds):(t=A8t->∃p:Pl,ds=p.ds)/\(t=B9S->∃nl l,ds=[ng nl (pL l)]):=by
 induction h with
 |int h=>exact⟨λe=>(by subst e;rw[Tryz.underlying32] at h;cases h),λe=>(by subst e;rw[Tryz.underlying30] at h;cases h)⟩
 |bool h=>exact⟨λe=>(by subst e;rw[Tryz.underlying32] at h;cases h),λe=>(by subst e;rw[Tryz.underlying30] at h;cases h)⟩
 |str h=>exact⟨λe=>(by subst e;rw[Tryz.underlying32] at h;cases h),λe=>(by subst e;rw[Tryz.underlying30] at h;cases h)⟩
 |nil h=>exact⟨λe=>(by subst e;rw[Tryz.underlying32] at h;cases h),λe=>⟨true,[],rfl⟩⟩
 |@sl t e es h hl hs he ih=>
  refine⟨λe=>(by subst e;rw[Tryz.underlying32] at h;cases h),λe'=>?_⟩
  subst e'
  rw[Tryz.underlying30] at h
  cases h
  have:∃l,es=pL l:=by
   clear he hs hl
   induction es with
   |nil=>exact⟨[],rfl⟩
   |cons x es ihh=>
    obtain⟨n,hn⟩:=(ih x (by simp)).1 rfl
    obtain⟨ks,hk⟩:=ihh λy hy=>ih y (by simp[hy])
    exact⟨n::ks,by rw[hn,hk];rfl⟩
  obtain⟨l,rfl⟩:=this
  exact⟨false,l,rfl⟩
 |@st t fs ds h hl hf ih=>
  refine⟨λe=>?_,λe=>(by subst e;rw[Tryz.underlying30] at h;cases h)⟩
  subst e
  rw[Tryz.underlying32] at h
  cases h
  rw[D55] at hl
  match ds,hl with
  |[d0,d1,d2,d3,d4,d5,d6,d7,d8,d9,d10,d11,d12,d13,d14],_=>
   have h0:=hf _ (W5 ..)
   have h1:=hf _ (I2 _ (W5 ..))
   have h2:=hf _ (I2 _ (I2 _ (W5 ..)))
   have h3:=hf _ (I2 _ (I2 _ (I2 _ (W5 ..))))
   have h4:=hf _ (I2 _ (I2 _ (I2 _ (I2 _ (W5 ..)))))
   have h5:=hf _ (I2 _ (I2 _ (I2 _ (I2 _ (I2 _ (W5 ..))))))
   have h6:=hf _ (I2 _ (I2 _ (I2 _ (I2 _ (I2 _ (I2 _ (W5 ..)))))))
   have h7:=hf _ (I2 _ (I2 _ (I2 _ (I2 _ (I2 _ (I2 _ (I2 _ (W5 ..))))))))
   have h8:=(ih _ (I2 _ (I2 _ (I2 _ (I2 _ (I2 _ (I2 _ (I2 _ (I2 _ (W5 ..)))))))))).2 rfl
   dsimp only at h0 h1 h2 h3 h4 h5 h6 h7 h8
   rw[A8D] at h0 h1
   rw[C0t] at h2 h6
   rw[C0u] at h3
   rw[C0r] at h4
   rw[C0s] at h5
   rw[D53] at h7
   rw[D56] at h8
   obtain⟨a,ha⟩:=A35 h0
   obtain⟨b,hb⟩:=A35 h1
   obtain⟨nk,ki,hk⟩:=B3s h2
   obtain⟨nr,rows,hr⟩:=C4n h3
   obtain⟨pred,hp⟩:=E0c h4
   obtain⟨nx,xs,hx⟩:=E0d h5
   obtain⟨ny,keys,hy⟩:=B3s h6
   obtain⟨na,aggs,hg⟩:=E09 h7
   obtain⟨ni,ins,hi⟩:=h8
   simp at ha hb hk hr hx hy hg hi
   refine⟨.mk ⟨a,b,nk,ki,nr,rows,pred,nx,xs,ny,keys,na,aggs⟩ ni ins,?_⟩
   rw[Pl.ds_mk,ha,hb,hk,hr,hx,hy,hg,hi]
   have hp:[d4,d5,d6,d7,d8,d9,d10]=pred.ds:=hp
   show _=[eI a,eI b,ng nk (A5 ki),ng nr (B7 rows)]++pred.ds++[ng nx (xL xs),ng ny (A5 keys),ng na (I0 aggs),ng ni (pL ins)]
   rw[<- hp];rfl
theorem E0f{ds:List D}(h:WT Tryz.prog A8t ds):∃p:Pl,ds=p.ds:=(E0g h).1 rfl
theorem D4G(p:Pl):A1s Tryz.prog A8t p.ds=p.av:=by unfold A1s;rw[Tryz.underlying32];rfl
theorem E0a{ds:List D}(h:WT Tryz.prog B9P ds):∃b:Bg,ds=[b.kd,b.rd]:=by
 obtain⟨hl,hf⟩:=h.st' Tryz.underlying43
 rw[D54] at hl
 match ds,hl with
 |[d0,d1],_=>
  have h0:=hf _ (W5 ..)
  have h1:=hf _ (I2 _ (W5 ..))
  dsimp only at h0 h1
  rw[C0t] at h0
  rw[C0u] at h1
  obtain⟨nk,ki,h0⟩:=B3s h0
  obtain⟨nr,rows,h1⟩:=C4n h1
  simp at h0 h1
  exact⟨⟨nk,ki,nr,rows⟩,by rw[h0,h1]⟩
theorem E0b{ds:List D}(h:WT Tryz.prog B9Q ds):∃d l,ds=[d]/\A9 d (V2 l):=by
 obtain⟨d,es,h1,h2,h4,h3⟩:=h.sl' Tryz.underlying33
 have:∃c,es=V2 c:=by
  clear h1 h2 h4
  induction es with
  |nil=>exact⟨[],rfl⟩
  |cons x es ih=>
   obtain⟨b,hn⟩:=E0a (h3 x (by simp))
   obtain⟨ks,hk⟩:=ih λy hy=>h3 y (by simp[hy])
   exact⟨b::ks,by rw[hn,hk];rfl⟩
 obtain⟨c,rfl⟩:=this
 exact⟨d,c,h1,h2⟩
theorem D4F(d:D):A1s Tryz.prog B9Q [d]=.d d:=by unfold A1s;rw[Tryz.underlying33]
theorem D4H{d:D}{I:List Bg}(h:A9 d (V2 I)){B:Nat}(hb:J8 [d]<=B):I.length<=B/\∀b∈I,b.ki.length<=B/\b.rows.length<=B/\∀r∈b.rows,r.vs.length<=B/\∀v∈r.vs,v.s.length<=B:=by
 have h1:=D9u h
 have h2:(V2 I).length<=D6 (V2 I):=A4a λx hx=>by
  obtain⟨b,_,rfl⟩:=D7.1 hx
  simp only[J8]
  unfold Bg.kd ng
  split<;>simp[T6]<;>omega
 rw[A5d] at h2
 refine⟨by omega,λb hbm=>?_⟩
 have h3:J8 [ng b.nk (A5 b.ki),ng b.nr (B7 b.rows)]<=D6 (V2 I):=A23 (D7.2 ⟨b,hbm,rfl⟩)
 have h4:=A22 b.nk (A5 b.ki)
 have h5:=A22 b.nr (B7 b.rows)
 have h6:=B1Q b.ki
 have h7:=C1c b.rows
 have h8:T6 (ng b.nk (A5 b.ki))+T6 (ng b.nr (B7 b.rows))<=J8 [ng b.nk (A5 b.ki),ng b.nr (B7 b.rows)]:=by simp only[J8];omega
 refine⟨by omega,by omega,λr hr=>?_⟩
 have b1:J8 [ng r.nl (B6 r.vs)]<=D6 (B7 b.rows):=A23 (D7.2 ⟨r,hr,rfl⟩)
 have b2:=A22 r.nl (B6 r.vs)
 have b3:D6 (B6 r.vs)<=B:=by simp only[J8] at b1;omega
 obtain⟨c1,c2⟩:=C1d r.vs
 exact⟨by omega,λv hv=>K4 (c2 v hv) b3⟩
end Go.Proofs
end
