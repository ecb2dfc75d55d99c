/- Texts of this claim, joined. No condition. -/
import Derived.Test.YtfnaleemmeejcaaGreatQ11
set_option linter.unusedSimpArgs false
set_option linter.unusedVariables false
set_option maxRecDepth 10000
set_option maxHeartbeats 4000000
section
namespace Go.Proofs
open Go.Bi
theorem C6F(K:List Kw)(hK:K.length<=4294967296)(hKb:∀k∈K,k.ks.length<=4294967296)(din:D)(hin:B0 din (E6 K))(o:Po)(ni:Bool)(ho:o.op=5)(a b:Pl)(hab:a.bk<=1073741824)(hbb:b.bk<=1073741824)(kd:D)(l:List Ex)(hb:∀x∈l,x.bk<=1073741824)(hl:l.length<=1073741824)(d:D)(hd:B0 d (xL l))
  (hall:(K3 false (l.map (A9 0))).bk<=1073741824) (m:Nat) (hm:(B9 K a).1.ks.length=m) (hm2:m<=48) (hr:∀x∈C9 l,x.bk<=1073741824) (hrl:(C9 l).length<=1073741824) (ra rb:Pl)
  (hA:C0 Tryz.prog s8 [.ptr 0 0,V4 a (B9 K a).1.d,.d (M4 (xL (C6 m 0 (C9 l))))] (F4 din) (λr os=>r=ra.av/\os=F4 din))
  (hB:C0 Tryz.prog s8 [.ptr 0 0,V4 b (B9 K b).1.d,.d (ng true (xL ((C6 m 1 (C9 l)).map (A9 (0-m)))))] (F4 din) (λr os=>r=rb.av/\os=F4 din)) :
  C0 Tryz.prog s8 [.ptr 0 0,V4 (.mk o ni [a,b]) kd,.d d] (F4 din) (λr os=>r=(P5 (.mk o true [ra,rb]) (C6 m 2 (C9 l))).av/\os=F4 din):=by
 have hTa:=A2T K hK hKb din hin a hab
 have hTb:=A2T K hK hKb din hin b hbb
 have hAl:=A8e l hb hl d hd
 have hSp:=B4p m (K3 false (l.map (A9 0))) hall
 have hsel:∀k:Nat,∀x∈C6 m k (C9 l),x∈C9 l:=λk x hx=>(A06.1 hx).1
 have hsl:∀k:Nat,(C6 m k (C9 l)).length<=1073741824:=λk=>J2 (A1D _ _) hrl
 have hFl:=A8c (.mk o true [ra,rb]) (C6 m 2 (C9 l)) (λx hx=>hr x (hsel 2 x hx)) (hsl 2) (M4 (xL (C6 m 2 (C9 l)))) (by rw[A48];exact C7)
 have hSh:=λx hx=>A2S x (hr x (hsel 1 x hx)) (0-(m:Int))
 obtain⟨q,hq⟩:∃q,q=P5 (.mk o true [ra,rb]) (C6 m 2 (C9 l)):=⟨_,rfl⟩
 rw[<- hq] at hFl ⊢
 clear hq hb hl hall hrl hr
 have hska:B0 (B9 K a).1.d (A5 (B9 K a).1.ks):=C7
 have hkl:=G4 (B9 K a).1.ks
 rw[hm] at hkl
 obtain⟨ka,hka⟩:∃d,d=(B9 K a).1.d:=⟨_,rfl⟩
 obtain⟨kb,hkb⟩:∃d,d=(B9 K b).1.d:=⟨_,rfl⟩
 obtain⟨ek,hek⟩:∃z,z=A5 (B9 K a).1.ks:=⟨_,rfl⟩
 rw[<- hka] at hTa hA hska
 rw[<- hkb] at hTb hB
 rw[<- hek] at hska hkl
 clear hka hkb hek hm
 obtain⟨d0,hd0⟩:∃z,z=M4 (xL (C6 m 0 (C9 l))):=⟨_,rfl⟩
 obtain⟨d2,hd2⟩:∃z,z=M4 (xL (C6 m 2 (C9 l))):=⟨_,rfl⟩
 have hs1:B0 (M4 (xL (C6 m 1 (C9 l)))) (xL (C6 m 1 (C9 l))):=by rw[A48];exact C7
 obtain⟨d1,hd1⟩:∃z,z=M4 (xL (C6 m 1 (C9 l))):=⟨_,rfl⟩
 have hSp:Bi.Pure Tryz.prog A5c [(K3 false (l.map (A9 0))).av,.d (eI m)] (.tup [.d (M4 (xL (C6 m 0 (C9 l)))),.d (M4 (xL (C6 m 1 (C9 l)))),.d (M4 (xL (C6 m 2 (C9 l))))]):=hSp
 rw[<- hd0,<- hd1,<- hd2] at hSp
 rw[<- hd0] at hA
 rw[<- hd1] at hs1
 rw[<- hd2] at hFl
 clear hd0 hd1 hd2
 obtain⟨L,hL⟩:∃z,z=C6 m 1 (C9 l):=⟨_,rfl⟩
 rw[<- hL] at hs1 hB hSh
 have hLl:L.length<=1073741824:=by rw[hL];exact hsl 1
 clear hL
 clear hsel hsl
 obtain⟨e,he⟩:∃e,e=K3 false (l.map (A9 0)):=⟨_,rfl⟩
 rw[<- he] at hAl hSp
 clear he
 obtain⟨eo,en,ev',em,el,ea⟩:=e
 rw[Ex.av_mk] at hAl hSp
 obtain⟨ed,hed⟩:∃d,d=ng el (xL ea):=⟨_,rfl⟩
 rw[<- hed] at hAl hSp
 clear hed
 have hm1:∀(ds:List D) n,[AV.ptr 0 0,.agg (ds.map .d)].map (mG (rn [0] n))=[.ptr 0 0,.agg (ds.map .d)]:=λds n=>by
  rw[G5,G5,V5,A1Z];rfl
 have hTaL:=λos2 (ho:os2[0]?=some (AO.cells [.d din]))=>A2F 0 hTa (hm1 a.ds) (A21 _) (λf=>by rw[s5];exact Q9 f _) os2 ho
 have hTbL:=λos2 (ho:os2[0]?=some (AO.cells [.d din]))=>A2F 0 hTb (hm1 b.ds) (A21 _) (λf=>by rw[s5];exact Q9 f _) os2 ho
 clear hm1
 rw[show ng true (xL (L.map (A9 (0-(m:Int)))))=if (xL (L.map (A9 (0-(m:Int))))).isEmpty then .nil else .sl (xL (L.map (A9 (0-(m:Int))))) by cases xL (L.map (A9 (0-(m:Int))))<;>rfl] at hB
 have hAL:=λrest=>n9 hA (by rw[s5];exact A3j _ _) (λf=>Q9 f _) rest
 have hBL:=λrest=>n9 hB (by rw[s5];exact A3j _ _) (λf=>Q9 f _) rest
 clear hTa hTb hA hB
 obtain⟨op,n,nk,ki,nr,rows,⟨xo,xn,xv,xm,xl,xa⟩,nx,xs,ny,keys,na,aggs⟩:=o
 dsimp only at ho
 subst ho
 have hds:(Pl.mk (⟨5,n,nk,ki,nr,rows,.mk xo xn xv xm xl xa,nx,xs,ny,keys,na,aggs⟩:Po) ni [a,b]).ds=N9 5 n (ng nk (A5 ki)) (ng nr (B6 rows)) xo xn xv xm (ng xl (xL xa)) (ng nx (xL xs)) (ng ny (A5 keys)) (ng na (H4 aggs)) (ng ni (pL [a,b])):=Pl.ds_eq _ _ _ _ _ _ _ _ _ rfl
 have hav:(Pl.mk (⟨5,n,nk,ki,nr,rows,.mk xo xn xv xm xl xa,nx,xs,ny,keys,na,aggs⟩:Po) true [ra,rb]).av=F3 5 n (ng nk (A5 ki)) (ng nr (B6 rows)) xo xn xv xm (ng xl (xL xa)) (ng nx (xL xs)) (ng ny (A5 keys)) (ng na (H4 aggs)) (ng true (pL [ra,rb])):=Pl.av_eq _ _ _ _ _ _ _ _ _ rfl
 have e1:ng ni (pL [a,b])=.sl [a.ds,b.ds]:=by cases ni<;>rfl
 have e2:ng true (pL [ra,rb])=.sl [ra.ds,rb.ds]:=rfl
 unfold V4 at *
 rw[e1] at hds
 rw[e2] at hav
 rw[hds]
 rw[hav] at hFl
 clear e1 e2 hds hav
 obtain⟨gk,e1⟩:∃d,d=ng nk (A5 ki):=⟨_,rfl⟩
 obtain⟨gr,e2⟩:∃d,d=ng nr (B6 rows):=⟨_,rfl⟩
 obtain⟨gx,e3⟩:∃d,d=ng nx (xL xs):=⟨_,rfl⟩
 obtain⟨gy,e4⟩:∃d,d=ng ny (A5 keys):=⟨_,rfl⟩
 obtain⟨ga,e5⟩:∃d,d=ng na (H4 aggs):=⟨_,rfl⟩
 obtain⟨xd,e7⟩:∃d,d=ng xl (xL xa):=⟨_,rfl⟩
 rw[<- e1,<- e2,<- e3,<- e4,<- e5,<- e7] at hFl ⊢
 clear e1 e2 e3 e4 e5 e7
 obtain⟨ao,an,ak,ar,axo,axn,axv,axm,axd,adx,ady,ada,adi,a1,a2⟩:=Pl.cut a
 obtain⟨bo,bn,bk',br,bxo,bxn,bxv,bxm,bxd,bdx,bdy,bda,bdi,b1,b2⟩:=Pl.cut b
 obtain⟨co,cn,ck,cr,cxo,cxn,cxv,cxm,cxd,cdx,cdy,cda,cdi,c1,c2⟩:=Pl.cut ra
 obtain⟨do',dn,dk,dr,dxo,dxn,dxv,dxm,dxd,ddx,ddy,dda,ddi,d3,d4⟩:=Pl.cut rb
 obtain⟨fo,fn,fk,fr,fxo,fxn,fxv,fxm,fxd,fdx,fdy,fda,fdi,f1,f2⟩:=Pl.cut q
 have hTaL:∀os2:List AO,os2[0]?=some (AO.cells [.d din])->C0 Tryz.prog A3E [.ptr 0 0,F3 ao an ak ar axo axn axv axm axd adx ady ada adi] os2 (λr' os'=>r'=.agg ((N9 ao an ak ar axo axn axv axm axd adx ady ada adi).map .d++[.d ka])/\os'=os2):=λos2 ho=>by
  have:=hTaL os2 ho
  rw[a1] at this
  exact this
 have hTbL:∀os2:List AO,os2[0]?=some (AO.cells [.d din])->C0 Tryz.prog A3E [.ptr 0 0,F3 bo bn bk' br bxo bxn bxv bxm bxd bdx bdy bda bdi] os2 (λr' os'=>r'=.agg ((N9 bo bn bk' br bxo bxn bxv bxm bxd bdx bdy bda bdi).map .d++[.d kb])/\os'=os2):=λos2 ho=>by
  have:=hTbL os2 ho
  rw[b1] at this
  exact this
 rw[a1] at hAL ⊢
 rw[b1] at hBL ⊢
 rw[c2] at hAL
 rw[d4] at hBL
 rw[c1,d3,f2] at hFl
 rw[f2]
 clear a1 a2 b1 b2 c1 c2 d3 d4 f1 f2
 have lL:=N1 L
 have mL:=O6 L
 have gL:=λi x=>@b9 L i x
 obtain⟨es,hes⟩:∃z,z=xL L:=⟨_,rfl⟩
 rw[<- hes] at hs1 lL mL gL
 clear hes
 rw[<- hkl] at hSp
 refine A6i.goX A6 rfl ?_
 repeat' first|refine st ?_|((with_reducible apply A4);conv=>whnf)|((with_reducible apply B2J);(·first|exact hTaL|exact hTbL))|refine⟨λ_=>?_,λ_=>?_⟩|fail
 refine T5 13 7 rfl rfl ?_
 refine B0w ?_
 refine J5 A6 B1d B1a (λ(i:Nat)=>[.arr 5 (xL ((L.take i).map (A9 (0-(m:Int))))).length,.d (eI i)]) (λi=>[.cells [.d din],.cells [.d (eI 5),.d (eI n),.d gk,.d gr,.d (eI xo),.d (eI xn),.d (eI xv.k),.d (eI xv.n),.d (.str xv.s),.d (.str xm),.d xd,.d gx,.d gy,.d ga,.d (.sl [N9 ao an ak ar axo axn axv axm axd adx ady ada adi,N9 bo bn bk' br bxo bxn bxv bxm bxd bdx bdy bda bdi]),.d kd],.cells [.d (eI 0),.d (eI 0),.d .nil,.d .nil,.d (eI 0),.d (eI 0),.d (eI 0),.d (eI 0),.d (.str []),.d (.str []),.d .nil,.d .nil,.d .nil,.d .nil,.d .nil],.cells [.d (eI ao),.d (eI an),.d ak,.d ar,.d (eI axo),.d (eI axn),.d (eI axv.k),.d (eI axv.n),.d (.str axv.s),.d (.str axm),.d axd,.d adx,.d ady,.d ada,.d adi,.d ka],.cells [.d (eI bo),.d (eI bn),.d bk',.d br,.d (eI bxo),.d (eI bxn),.d (eI bxv.k),.d (eI bxv.n),.d (.str bxv.s),.d (.str bxm),.d bxd,.d bdx,.d bdy,.d bda,.d bdi,.d kb],.arr (xL ((L.take i).map (A9 (0-(m:Int))))) 7 0 (xL ((L.take i).map (A9 (0-(m:Int))))).isEmpty]) (λi=>i<=L.length) (λi=>L.length-i) 0 rfl rfl rfl rfl (λ_ _=>⟨rfl,rfl⟩) rfl (by omega) ?_
 repeat' first|refine st ?_|((with_reducible apply A4);conv=>whnf)|refine⟨λ_=>?_,λ_=>?_⟩|fail
 intro i i1
 have hw1:(xL ((L.take i).map (A9 (0-(m:Int))))).length=i:=by rw[N1,D3,L6];omega
 have hwm:=O6 ((L.take i).map (A9 (0-(m:Int))))
 have hbd:((xL ((L.take i).map (A9 (0-(m:Int))))).length+1)*88<=140737488355328:=by omega
 cases hx:L[i]? with
 |some x=>
  have hlt:=(B3.1 hx).1
  have hilt:(i:Int)<es.length:=by omega
  have hg:=gL i x hx
  have hS:=hSh x (C3 hx)
  have ht:xL ((L.take (i+1)).map (A9 (0-(m:Int))))=xL ((L.take i).map (A9 (0-(m:Int))))++[(A9 (0-(m:Int)) x).ds]:=by rw[L5,hx];simp[xL]
  obtain⟨A,hA'⟩:∃z,z=xL ((L.take i).map (A9 (0-(m:Int)))):=⟨_,rfl⟩
  rw[<- hA'] at hw1 hwm hbd ht ⊢
  obtain⟨y,hy⟩:∃y,y=A9 (0-(m:Int)) x:=⟨_,rfl⟩
  rw[<- hy] at hS ht
  clear hy gL hx hA' hSh hTaL hTbL hAL hBL hFl hAl hSp
  obtain⟨x1,x2,x3,x4,x5,x6⟩:=x
  obtain⟨y1,y2,y3,y4,y5,y6⟩:=y
  rw[Ex.av_mk,Ex.av_mk] at hS
  rw[Ex.ds_mk] at hg ht
  have hg:es[((i:Nat):Int).toNat]?=some (U3 x1 x2 x3 x4 (ng x5 (xL x6))):=hg
  obtain⟨z1,hz1⟩:∃d,d=ng x5 (xL x6):=⟨_,rfl⟩
  obtain⟨z2,hz2⟩:∃d,d=ng y5 (xL y6):=⟨_,rfl⟩
  rw[<- hz1,<- hz2] at hS
  rw[<- hz1] at hg
  rw[<- hz2] at ht
  clear hz1 hz2
  rw[<- hkl] at hS
  have q0:x3.s=x3.s:=rfl
  have q1:x4=x4:=rfl
  have q2:y3.s=y3.s:=rfl
  have q3:y4=y4:=rfl
  repeat' first|refine st ?_|((with_reducible apply A4);conv=>whnf)|refine⟨λ_=>?_,λ_=>?_⟩|fail
  exact⟨i+1,by rw[ht];simp,rfl,by rw[ht];simp,by omega,by omega⟩
 |none=>
  have hge:=F2.1 hx
  have hilt:(es.length:Int)<=i:=by omega
  rw[H0 hge] at hw1 hwm hbd ⊢
  obtain⟨A,hA'⟩:∃z,z=xL (L.map (A9 (0-(m:Int)))):=⟨_,rfl⟩
  rw[<- hA'] at hw1 hwm hbd hBL ⊢
  clear gL hx hA' hSh hTaL hTbL hAl hSp
  repeat' first|refine st ?_|((with_reducible apply A4);conv=>whnf)|refine⟨λ_=>?_,λ_=>?_⟩|fail
  refine⟨_,_,l8.frz 13 rfl rfl rfl l8.refl,?_⟩
  refine A7j ?_
  repeat' first|refine st ?_|((with_reducible apply A4);conv=>whnf)|((with_reducible first|apply O1|apply O0);(·first|exact hAL _|exact hBL _);(try rintro _ _ ⟨rfl,rfl⟩))|((with_reducible apply O2);(·first|exact hAL _|exact hBL _))|refine⟨λ_=>?_,λ_=>?_⟩|fail
  all_goals exact⟨rfl,rfl⟩
theorem C6H(K:List Kw)(hK:K.length<=4294967296)(hKb:∀k∈K,k.ks.length<=4294967296)(din:D)(hin:B0 din (E6 K))(o:Po)(ni:Bool)(ho:o.op=6)(a b:Pl)(hab:a.bk<=1073741824)(hbb:b.bk<=1073741824)(kd:D)(l:List Ex)(hb:∀x∈l,x.bk<=1073741824)(hl:l.length<=1073741824)(d:D)(hd:B0 d (xL l))
  (hall:(K3 false (l.map (A9 0))).bk<=1073741824) (m:Nat) (hm:(B9 K a).1.ks.length=m) (hm2:m<=48) (hr:∀x∈C9 l,x.bk<=1073741824) (hrl:(C9 l).length<=1073741824) (ra rb:Pl)
  (hA:C0 Tryz.prog s8 [.ptr 0 0,V4 a (B9 K a).1.d,.d (M4 (xL (C6 m 0 (C9 l))))] (F4 din) (λr os=>r=ra.av/\os=F4 din))
  (hB:C0 Tryz.prog s8 [.ptr 0 0,V4 b (B9 K b).1.d,.d .nil] (F4 din) (λr os=>r=rb.av/\os=F4 din)) :
  C0 Tryz.prog s8 [.ptr 0 0,V4 (.mk o ni [a,b]) kd,.d d] (F4 din) (λr os=>r=(P5 (.mk o true [ra,rb]) (C6 m 1 (C9 l)++C6 m 2 (C9 l))).av/\os=F4 din):=by
 have hTa:=A2T K hK hKb din hin a hab
 have hTb:=A2T K hK hKb din hin b hbb
 have hAl:=A8e l hb hl d hd
 have hSp:=C6b m (K3 false (l.map (A9 0))) hall
 have hsel:∀k:Nat,∀x∈C6 m k (C9 l),x∈C9 l:=λk x hx=>(A06.1 hx).1
 have hsl:∀k:Nat,(C6 m k (C9 l)).length<=1073741824:=λk=>J2 (A1D _ _) hrl
 have hFl:=A8c (.mk o true [ra,rb]) (C6 m 1 (C9 l)++C6 m 2 (C9 l)) (λx hx=>by
  rcases L9.1 hx with hx|hx
  ·exact hr x (hsel 1 x hx)
  ·exact hr x (hsel 2 x hx)) (by
  have h1:=A8U m (C9 l)
  have h2:=A1D (λx=>decide (T7 m x≠0)) (C9 l)
  have h3:=B3t m (C9 l)
  omega) (w7 (bif (xL (C6 m 2 (C9 l))).isEmpty then (xL (C6 m 1 (C9 l))).isEmpty else false) .nil (.sl (xL (C6 m 1 (C9 l))++xL (C6 m 2 (C9 l))))) (by
  rw[show xL (C6 m 1 (C9 l)++C6 m 2 (C9 l))=xL (C6 m 1 (C9 l))++xL (C6 m 2 (C9 l)) by simp[xL]]
  cases xL (C6 m 1 (C9 l))<;>cases xL (C6 m 2 (C9 l))<;>first|exact .inl ⟨rfl,rfl⟩|exact .inr rfl)
 obtain⟨q,hq⟩:∃q,q=P5 (.mk o true [ra,rb]) (C6 m 1 (C9 l)++C6 m 2 (C9 l)):=⟨_,rfl⟩
 rw[<- hq] at hFl ⊢
 clear hq hb hl hall hrl hr
 have hska:B0 (B9 K a).1.d (A5 (B9 K a).1.ks):=C7
 have hkl:=G4 (B9 K a).1.ks
 rw[hm] at hkl
 obtain⟨ka,hka⟩:∃d,d=(B9 K a).1.d:=⟨_,rfl⟩
 obtain⟨kb,hkb⟩:∃d,d=(B9 K b).1.d:=⟨_,rfl⟩
 obtain⟨ek,hek⟩:∃z,z=A5 (B9 K a).1.ks:=⟨_,rfl⟩
 rw[<- hka] at hTa hA hska
 rw[<- hkb] at hTb hB
 rw[<- hek] at hska hkl
 clear hka hkb hek hm
 obtain⟨A0,hA0⟩:∃z,z=xL (C6 m 0 (C9 l)):=⟨_,rfl⟩
 obtain⟨A1,hA1⟩:∃z,z=xL (C6 m 1 (C9 l)):=⟨_,rfl⟩
 obtain⟨A2,hA2⟩:∃z,z=xL (C6 m 2 (C9 l)):=⟨_,rfl⟩
 have g1:=N1 (C6 m 1 (C9 l))
 have g2:=N1 (C6 m 2 (C9 l))
 have g3:=hsl 1
 have g4:=hsl 2
 have g5:=O6 (C6 m 2 (C9 l))
 have g6:=O6 (C6 m 1 (C9 l))
 have hSp:C0 Tryz.prog A5c [(K3 false (l.map (A9 0))).av,.d (eI m)] [] (λr os=>r=.tup [.arr 1 (xL (C6 m 0 (C9 l))).length,.arr 2 (xL (C6 m 1 (C9 l))).length,.arr 3 (xL (C6 m 2 (C9 l))).length]/\
  os=[.cells ((K3 false (l.map (A9 0))).ds.map .d),.arr (xL (C6 m 0 (C9 l))) 7 0 (xL (C6 m 0 (C9 l))).isEmpty,.arr (xL (C6 m 1 (C9 l))) 7 0 (xL (C6 m 1 (C9 l))).isEmpty,.arr (xL (C6 m 2 (C9 l))) 7 0 (xL (C6 m 2 (C9 l))).isEmpty]):=hSp
 rw[<- hA0,<- hA1,<- hA2] at hSp
 rw[<- hA0,show M4 A0=if A0.isEmpty then .nil else .sl A0 from rfl] at hA
 rw[<- hA1,<- hA2] at hFl
 rw[<- hA1] at g1 g6
 rw[<- hA2] at g2 g5
 rw[<- g1] at g3
 rw[<- g2] at g4
 clear hA0 hA1 hA2 g1 g2
 clear hsel hsl
 obtain⟨e,he⟩:∃e,e=K3 false (l.map (A9 0)):=⟨_,rfl⟩
 rw[<- he] at hAl hSp
 clear he
 obtain⟨eo,en,ev',em,el,ea⟩:=e
 rw[Ex.av_mk] at hAl hSp
 rw[Ex.ds_mk] at hSp
 obtain⟨ed,hed⟩:∃d,d=ng el (xL ea):=⟨_,rfl⟩
 rw[<- hed] at hAl hSp
 clear hed
 have hm1:∀(ds:List D) n,[AV.ptr 0 0,.agg (ds.map .d)].map (mG (rn [0] n))=[.ptr 0 0,.agg (ds.map .d)]:=λds n=>by
  rw[G5,G5,V5,A1Z];rfl
 have hTaL:=λos2 (ho:os2[0]?=some (AO.cells [.d din]))=>A2F 0 hTa (hm1 a.ds) (A21 _) (λf=>by rw[s5];exact Q9 f _) os2 ho
 have hTbL:=λos2 (ho:os2[0]?=some (AO.cells [.d din]))=>A2F 0 hTb (hm1 b.ds) (A21 _) (λf=>by rw[s5];exact Q9 f _) os2 ho
 clear hm1
 have hAL:=λrest=>n9 hA (by rw[s5];exact A3j _ _) (λf=>Q9 f _) rest
 have hBL:=λrest=>n9 hB (by rw[s5];exact A3j _ _) (λf=>Q9 f _) rest
 clear hTa hTb hA hB
 obtain⟨op,n,nk,ki,nr,rows,⟨xo,xn,xv,xm,xl,xa⟩,nx,xs,ny,keys,na,aggs⟩:=o
 dsimp only at ho
 subst ho
 have hds:(Pl.mk (⟨6,n,nk,ki,nr,rows,.mk xo xn xv xm xl xa,nx,xs,ny,keys,na,aggs⟩:Po) ni [a,b]).ds=N9 6 n (ng nk (A5 ki)) (ng nr (B6 rows)) xo xn xv xm (ng xl (xL xa)) (ng nx (xL xs)) (ng ny (A5 keys)) (ng na (H4 aggs)) (ng ni (pL [a,b])):=Pl.ds_eq _ _ _ _ _ _ _ _ _ rfl
 have hav:(Pl.mk (⟨6,n,nk,ki,nr,rows,.mk xo xn xv xm xl xa,nx,xs,ny,keys,na,aggs⟩:Po) true [ra,rb]).av=F3 6 n (ng nk (A5 ki)) (ng nr (B6 rows)) xo xn xv xm (ng xl (xL xa)) (ng nx (xL xs)) (ng ny (A5 keys)) (ng na (H4 aggs)) (ng true (pL [ra,rb])):=Pl.av_eq _ _ _ _ _ _ _ _ _ rfl
 have e1:ng ni (pL [a,b])=.sl [a.ds,b.ds]:=by cases ni<;>rfl
 have e2:ng true (pL [ra,rb])=.sl [ra.ds,rb.ds]:=rfl
 unfold V4 at *
 rw[e1] at hds
 rw[e2] at hav
 rw[hds]
 rw[hav] at hFl
 clear e1 e2 hds hav
 obtain⟨gk,e1⟩:∃d,d=ng nk (A5 ki):=⟨_,rfl⟩
 obtain⟨gr,e2⟩:∃d,d=ng nr (B6 rows):=⟨_,rfl⟩
 obtain⟨gx,e3⟩:∃d,d=ng nx (xL xs):=⟨_,rfl⟩
 obtain⟨gy,e4⟩:∃d,d=ng ny (A5 keys):=⟨_,rfl⟩
 obtain⟨ga,e5⟩:∃d,d=ng na (H4 aggs):=⟨_,rfl⟩
 obtain⟨xd,e7⟩:∃d,d=ng xl (xL xa):=⟨_,rfl⟩
 rw[<- e1,<- e2,<- e3,<- e4,<- e5,<- e7] at hFl ⊢
 clear e1 e2 e3 e4 e5 e7
 obtain⟨ao,an,ak,ar,axo,axn,axv,axm,axd,adx,ady,ada,adi,a1,a2⟩:=Pl.cut a
 obtain⟨bo,bn,bk',br,bxo,bxn,bxv,bxm,bxd,bdx,bdy,bda,bdi,b1,b2⟩:=Pl.cut b
 obtain⟨co,cn,ck,cr,cxo,cxn,cxv,cxm,cxd,cdx,cdy,cda,cdi,c1,c2⟩:=Pl.cut ra
 obtain⟨do',dn,dk,dr,dxo,dxn,dxv,dxm,dxd,ddx,ddy,dda,ddi,d3,d4⟩:=Pl.cut rb
 obtain⟨fo,fn,fk,fr,fxo,fxn,fxv,fxm,fxd,fdx,fdy,fda,fdi,f1,f2⟩:=Pl.cut q
 have hTaL:∀os2:List AO,os2[0]?=some (AO.cells [.d din])->C0 Tryz.prog A3E [.ptr 0 0,F3 ao an ak ar axo axn axv axm axd adx ady ada adi] os2 (λr' os'=>r'=.agg ((N9 ao an ak ar axo axn axv axm axd adx ady ada adi).map .d++[.d ka])/\os'=os2):=λos2 ho=>by
  have:=hTaL os2 ho
  rw[a1] at this
  exact this
 have hTbL:∀os2:List AO,os2[0]?=some (AO.cells [.d din])->C0 Tryz.prog A3E [.ptr 0 0,F3 bo bn bk' br bxo bxn bxv bxm bxd bdx bdy bda bdi] os2 (λr' os'=>r'=.agg ((N9 bo bn bk' br bxo bxn bxv bxm bxd bdx bdy bda bdi).map .d++[.d kb])/\os'=os2):=λos2 ho=>by
  have:=hTbL os2 ho
  rw[b1] at this
  exact this
 rw[a1] at hAL ⊢
 rw[b1] at hBL ⊢
 rw[c2] at hAL
 rw[d4] at hBL
 rw[c1,d3,f2] at hFl
 rw[f2]
 clear a1 a2 b1 b2 c1 c2 d3 d4 f1 f2
 have hbd:(A1.length+A2.length)*88<=140737488355328:=by omega
 have hbd2:A1.length+A2.length<=9223372036854775807:=by omega
 obtain⟨b0,hb0⟩:∃b,b=A0.isEmpty:=⟨_,rfl⟩
 obtain⟨b1,hb1⟩:∃b,b=A1.isEmpty:=⟨_,rfl⟩
 rw[<- hb0] at hSp hAL
 rw[<- hb1] at hSp hFl
 rw[<- hkl] at hSp
 refine A6i.goX A6 rfl ?_
 repeat' first|refine st ?_|((with_reducible apply A4);conv=>whnf)|((with_reducible apply B2J);(·first|exact hTaL|exact hTbL))|((with_reducible first|apply O1|apply O0);(·exact hSp);(try rintro _ _ ⟨rfl,rfl⟩))|((with_reducible apply O2);(·exact hSp))|refine⟨λ_=>?_,λ_=>?_⟩|fail
 refine B0w ?_
 refine J5 A6 B1d B1a (λ(i:Nat)=>[.d .nil,.d (eI i)]) (λi=>[.cells [.d din],.cells [.d (eI 6),.d (eI n),.d gk,.d gr,.d (eI xo),.d (eI xn),.d (eI xv.k),.d (eI xv.n),.d (.str xv.s),.d (.str xm),.d xd,.d gx,.d gy,.d ga,.d (.sl [N9 ao an ak ar axo axn axv axm axd adx ady ada adi,N9 bo bn bk' br bxo bxn bxv bxm bxd bdx bdy bda bdi]),.d kd],.cells [.d (eI 0),.d (eI 0),.d .nil,.d .nil,.d (eI 0),.d (eI 0),.d (eI 0),.d (eI 0),.d (.str []),.d (.str []),.d .nil,.d .nil,.d .nil,.d .nil,.d .nil],.cells [.d (eI ao),.d (eI an),.d ak,.d ar,.d (eI axo),.d (eI axn),.d (eI axv.k),.d (eI axv.n),.d (.str axv.s),.d (.str axm),.d axd,.d adx,.d ady,.d ada,.d adi,.d ka],.cells [.d (eI bo),.d (eI bn),.d bk',.d br,.d (eI bxo),.d (eI bxn),.d (eI bxv.k),.d (eI bxv.n),.d (.str bxv.s),.d (.str bxm),.d bxd,.d bdx,.d bdy,.d bda,.d bdi,.d kb],.cells [.d (eI eo),.d (eI en),.d (eI ev'.k),.d (eI ev'.n),.d (.str ev'.s),.d (.str em),.d ed],.arr A0 7 0 b0,.arr (A1++A2) 7 0 (bif A2.isEmpty then b1 else false),.arr A2 7 0 A2.isEmpty]) (λi=>i=0) (λi=>i) 0 rfl rfl rfl rfl (λ_ _=>⟨rfl,rfl⟩) rfl rfl ?_
 repeat' first|refine st ?_|((with_reducible apply A4);conv=>whnf)|refine⟨λ_=>?_,λ_=>?_⟩|fail
 intro i i1
 subst i1
 repeat' first|refine st ?_|((with_reducible apply A4);conv=>whnf)|refine⟨λ_=>?_,λ_=>?_⟩|fail
 refine⟨_,_,l8.frz 10 rfl rfl rfl l8.refl,?_⟩
 refine A7j ?_
 repeat' first|refine st ?_|((with_reducible apply A4);conv=>whnf)|((with_reducible first|apply O1|apply O0);(·first|exact hAL _|exact hBL _);(try rintro _ _ ⟨rfl,rfl⟩))|((with_reducible apply O2);(·first|exact hAL _|exact hBL _))|refine⟨λ_=>?_,λ_=>?_⟩|fail
 all_goals exact⟨rfl,rfl⟩
theorem A8T(l:List Ex):l.length<=aL l:=by
 rw[A4v];omega
theorem D6Z{l:List Ex}(h:∀c∈l,P7 c):(K3 false (l.map (A9 0))).bk<=aL l+8:=by
 rw[A4N h]
 by_cases hn:l=[]
 ·subst hn;decide
 ·have:=C18 (nl:=false) hn
  omega
theorem A5r(K:List Kw)(p:Pl):(B9 K p).1.ks.length<=48:=by
 unfold B9
 split
 ·decide
 ·exact m9 K p
theorem C6D(K:List Kw)(hK:K.length<=4294967296)(hKb:∀k∈K,k.ks.length<=4294967296)(din:D)(hin:B0 din (E6 K)):∀{x:Pl},NF K x->∀l:List Ex,(∀c∈l,P7 c)->pw x+aL l+23*jn x+23<=1073741824->∀kd d,B0 d (xL l)->
  C0 Tryz.prog s8 [.ptr 0 0,V4 x kd,.d d] (F4 din) (λr os=>r=(K4 K x l).av/\os=F4 din):=by
 intro x hx
 induction hx with
 |@leaf o ni ins h hs ih=>
  intro l hl hb kd d hd
  have h1:=A8T l
  rw[A9O K l h]
  exact B0J din o ni ins h kd l (λc hc=>by have:=A6z c hc;omega) (by omega) d hd
 |@join o ni a b h ha hb' iha ihb=>
  intro l hl hb kd d hd
  have h1:=A8T l
  have h2:=C19 hl
  have h3:=A8U (H5 K a) (C9 l)
  have h4:=A8T (C9 l)
  have h5:=D6Z hl
  obtain⟨p1,p2⟩:=A9V o ni a b
  rw[if_pos h] at p2
  have hab:=(Z6 a).1
  have hbb:=(Z6 b).1
  have hA:=iha (C6 (H5 K a) 0 (C9 l)) (T2 hl) (by omega) (B9 K a).1.d (M4 (xL (C6 (H5 K a) 0 (C9 l)))) (by rw[A48];exact C7)
  rcases h with h|h
  ·have h6:=A34 (j6 (-(H5 K a))) (C6 (H5 K a) 1 (C9 l))
   have hB:=ihb ((C6 (H5 K a) 1 (C9 l)).map (A9 (-(H5 K a)))) (A7T (T2 hl)) (by omega) (B9 K b).1.d (ng true (xL ((C6 (H5 K a) 1 (C9 l)).map (A9 (-(H5 K a)))))) C7
   rw[A7C K l h]
   exact C6F K hK hKb din hin o ni h a b (by omega) (by omega) kd l (λc hc=>by have:=A6z c hc;omega) (by omega) d hd (by omega) _ rfl (A5r K a) (λc hc=>by have:=A6z c hc;omega) (by omega) _ _ hA (by rw[Int.zero_sub];exact hB)
  ·have hB:=ihb [] (by simp) (by have:aL []=0:=rfl;omega) (B9 K b).1.d .nil (.inl ⟨rfl,rfl⟩)
   rw[A7D K l h]
   exact C6H K hK hKb din hin o ni h a b (by omega) (by omega) kd l (λc hc=>by have:=A6z c hc;omega) (by omega) d hd (by omega) _ rfl (A5r K a) (λc hc=>by have:=A6z c hc;omega) (by omega) _ _ hA hB
 |@filt o ni y lp h hy h3 hp hlp hc hr ih=>
  intro l hl hb kd d hd
  have h1:=A8T l
  obtain⟨p1,p2⟩:=A7H o ni y
  rw[if_neg (by omega)] at p2
  have ew:wp1 o=max (o.pred.bk+8) (aL (cj o.pred)):=if_pos h
  have hyb:=(Z6 y).1
  have h2:=A34 (j6 0) (cj o.pred)
  have h6:=A6y ((cj o.pred).map (A9 0)) l
  rw[A7B K l h]
  refine C6E K hK hKb din hin o ni y _ h (by omega) (by omega) kd l (by omega) d hd λd' hd'=>?_
  exact ih _ (λc hm=>by
   rcases L9.1 hm with hm|hm
   ·exact A4C _ c hm
   ·exact hl c hm) (by omega) _ d' hd'
theorem C6N(din:D)(g:Pl->Pl)(o:Po)(ni:Bool)(ins:List Pl)(hop:o.op≠3)(hb:(Pl.mk o ni ins).bk<=1073741824)(hf:∀x∈ins,C0 Tryz.prog P9 [.ptr 0 0,x.av] (F4 din) (λr os=>r=(g x).av/\os=F4 din)) :
  C0 Tryz.prog P9 [.ptr 0 0,(Pl.mk o ni ins).av] (F4 din) (λr os=>r=(Pl.mk (l9 o) true (ins.map g)).av/\os=F4 din):=by
 have hM:=B4j P9 g o ni ins hb din hf
 have hML:=λrest=>n9 hM (A9Y _ _) (λf=>Q9 f _) rest
 clear hM hf hb
 obtain⟨q,hq⟩:∃q,q=Pl.mk (l9 o) true (ins.map g):=⟨_,rfl⟩
 rw[<- hq] at hML ⊢
 clear hq
 obtain⟨xo,xn,xv,xm,xd,hav,hds⟩:=Pl.cuto o ni ins
 have hML:∀rest,C0 Tryz.prog A2i [(Pl.mk o ni ins).av,.bcl P9 0] (F4 din++rest) (λr' os'=>r'=q.av/\os'=F4 din++rest):=hML
 rw[hav] at hML ⊢
 clear hav hds
 obtain⟨fo,fn,fk,fr,fxo,fxn,fxv,fxm,fxd,fdx,fdy,fda,fdi,f1,f2⟩:=Pl.cut q
 rw[f2] at hML ⊢
 clear f1 f2
 obtain⟨op,h0⟩:∃d,d=o.op:=⟨_,rfl⟩
 obtain⟨n,h1⟩:∃d,d=o.n:=⟨_,rfl⟩
 obtain⟨dk,h2⟩:∃d,d=o.dk:=⟨_,rfl⟩
 obtain⟨dr,h3⟩:∃d,d=o.dr:=⟨_,rfl⟩
 obtain⟨dx,h4⟩:∃d,d=o.dx:=⟨_,rfl⟩
 obtain⟨dy,h5⟩:∃d,d=o.dy:=⟨_,rfl⟩
 obtain⟨da,h6⟩:∃d,d=o.da:=⟨_,rfl⟩
 obtain⟨di,h7⟩:∃d,d=ng ni (pL ins):=⟨_,rfl⟩
 rw[<- h0] at hop
 rw[<- h0,<- h1,<- h2,<- h3,<- h4,<- h5,<- h6,<- h7] at hML ⊢
 clear h0 h1 h2 h3 h4 h5 h6 h7
 have r0:xv.k=xv.k:=rfl
 have r1:xv.s=xv.s:=rfl
 have r2:xm=xm:=rfl
 have r3:fxv.s=fxv.s:=rfl
 have r4:fxm=fxm:=rfl
 refine A8r.goX A6 rfl ?_
 repeat' first|refine st ?_|((with_reducible apply A4);conv=>whnf)|((with_reducible first|apply O1|apply O0);(·exact hML _);(try rintro _ _ ⟨rfl,rfl⟩))|((with_reducible apply O2);(·exact hML _))|refine⟨λ_=>?_,λ_=>?_⟩|fail
 all_goals first|exact⟨rfl,rfl⟩|(exfalso;omega)
theorem C6L(K:List Kw)(hK:K.length<=4294967296)(hKb:∀k∈K,k.ks.length<=4294967296)(din:D)(hin:B0 din (E6 K))(o:Po)(ni:Bool)(ho:o.op=3)(x y q:Pl)(hb:(Pl.mk o ni [x]).bk<=1073741824)(hyb:y.bk<=1073741824)(hf:C0 Tryz.prog P9 [.ptr 0 0,x.av] (F4 din) (λr os=>r=y.av/\os=F4 din))
  (hP:C0 Tryz.prog s8 [.ptr 0 0,V4 y (B9 K y).1.d,.d (M4 (xL ((cj (A9 0 o.pred)).map (A9 0))))] (F4 din) (λr os=>r=q.av/\os=F4 din)) :
  C0 Tryz.prog P9 [.ptr 0 0,(Pl.mk o ni [x]).av] (F4 din) (λr os=>r=q.av/\os=F4 din):=by
 have hM:=B4j P9 (λ_=>y) o ni [x] hb din (λz hz=>by rw[O4.1 hz];exact hf)
 have hML:=λrest=>n9 hM (A9Y _ _) (λf=>Q9 f _) rest
 have hpb:=(Pl.bd hb).pred
 have hT:=A2T K hK hKb din hin y hyb
 have hC:=A8f (A9 0 o.pred) (J2 (j6 0 _) hpb)
 have hTL:=λrest=>n9 hT (A21 _) (λf=>by rw[s5];exact Q9 f _) rest
 have hPL:=λrest=>n9 hP (by rw[s5];exact A3j _ _) (λf=>Q9 f _) rest
 clear hM hf hT hP hb hpb
 obtain⟨d,hd⟩:∃d,d=M4 (xL ((cj (A9 0 o.pred)).map (A9 0))):=⟨_,rfl⟩
 rw[<- hd] at hC hPL
 clear hd
 obtain⟨kd,hkd⟩:∃d,d=(B9 K y).1.d:=⟨_,rfl⟩
 rw[<- hkd] at hTL hPL
 clear hkd
 obtain⟨op,n,nk,ki,nr,rows,pred,nx,xs,ny,keys,na,aggs⟩:=o
 dsimp only at ho hC
 subst ho
 have hML:∀rest,C0 Tryz.prog A2i [(Pl.mk (⟨3,n,nk,ki,nr,rows,pred,nx,xs,ny,keys,na,aggs⟩:Po) ni [x]).av,.bcl P9 0] (F4 din++rest) (λr' os'=>r'=(Pl.mk (⟨3,n,nk,ki,true,rows,A9 0 pred,true,xs.map (A9 0),ny,keys,na,aggs⟩:Po) true [y]).av/\os'=F4 din++rest):=hML
 obtain⟨e2,he2⟩:∃e,e=A9 0 pred:=⟨_,rfl⟩
 rw[<- he2] at hML hC
 clear he2
 obtain⟨xo,xn,xv,xm,xl,xa⟩:=pred
 obtain⟨yo,yn,yv,ym,yl,ya⟩:=e2
 have hav1:(Pl.mk (⟨3,n,nk,ki,nr,rows,.mk xo xn xv xm xl xa,nx,xs,ny,keys,na,aggs⟩:Po) ni [x]).av=F3 3 n (ng nk (A5 ki)) (ng nr (B6 rows)) xo xn xv xm (ng xl (xL xa)) (ng nx (xL xs)) (ng ny (A5 keys)) (ng na (H4 aggs)) (ng ni (pL [x])):=Pl.av_eq _ _ _ _ _ _ _ _ _ rfl
 have hav2:(Pl.mk (⟨3,n,nk,ki,true,rows,.mk yo yn yv ym yl ya,true,xs.map (A9 0),ny,keys,na,aggs⟩:Po) true [y]).av=F3 3 n (ng nk (A5 ki)) (ng true (B6 rows)) yo yn yv ym (ng yl (xL ya)) (ng true (xL (xs.map (A9 0)))) (ng ny (A5 keys)) (ng na (H4 aggs)) (ng true (pL [y])):=Pl.av_eq _ _ _ _ _ _ _ _ _ rfl
 have e3:ng true (pL [y])=.sl [y.ds]:=rfl
 rw[e3] at hav2
 rw[hav1,hav2] at hML
 rw[hav1]
 rw[Ex.av_mk] at hC
 clear hav1 hav2 e3
 obtain⟨gk,e1⟩:∃d,d=ng nk (A5 ki):=⟨_,rfl⟩
 obtain⟨gr,e2⟩:∃d,d=ng nr (B6 rows):=⟨_,rfl⟩
 obtain⟨gx,e3⟩:∃d,d=ng nx (xL xs):=⟨_,rfl⟩
 obtain⟨gy,e4⟩:∃d,d=ng ny (A5 keys):=⟨_,rfl⟩
 obtain⟨ga,e5⟩:∃d,d=ng na (H4 aggs):=⟨_,rfl⟩
 obtain⟨gi,e6⟩:∃d,d=ng ni (pL [x]):=⟨_,rfl⟩
 obtain⟨xd,e7⟩:∃d,d=ng xl (xL xa):=⟨_,rfl⟩
 rw[<- e1,<- e2,<- e3,<- e4,<- e5,<- e6,<- e7] at hML ⊢
 clear e1 e2 e3 e4 e5 e6 e7
 obtain⟨gr2,e2⟩:∃d,d=ng true (B6 rows):=⟨_,rfl⟩
 obtain⟨gx2,e3⟩:∃d,d=ng true (xL (xs.map (A9 0))):=⟨_,rfl⟩
 obtain⟨yd,e7⟩:∃d,d=ng yl (xL ya):=⟨_,rfl⟩
 rw[<- e2,<- e3,<- e7] at hML
 rw[<- e7] at hC
 clear e2 e3 e7
 unfold V4 at hTL hPL
 obtain⟨bo,bn,bk',br,bxo,bxn,bxv,bxm,bxd,bdx,bdy,bda,bdi,b1,b2⟩:=Pl.cut y
 obtain⟨fo,fn,fk,fr,fxo,fxn,fxv,fxm,fxd,fdx,fdy,fda,fdi,f1,f2⟩:=Pl.cut q
 rw[b1] at hML hTL hPL
 rw[b2] at hTL
 rw[f2] at hPL ⊢
 clear b1 b2 f1 f2
 have r0:xv.k=xv.k:=rfl
 have r1:xv.s=xv.s:=rfl
 have r2:xm=xm:=rfl
 have r3:yv.s=yv.s:=rfl
 have r4:ym=ym:=rfl
 refine A8r.goX A6 rfl ?_
 repeat' first|refine st ?_|((with_reducible apply A4);conv=>whnf)|((with_reducible first|apply O1|apply O0);(·first|exact hML _|exact hTL _|exact hPL _);(try rintro _ _ ⟨rfl,rfl⟩))|((with_reducible apply O2);(·first|exact hML _|exact hTL _|exact hPL _))|refine⟨λ_=>?_,λ_=>?_⟩|fail
 all_goals first|exact⟨rfl,rfl⟩|(exfalso;omega)
theorem B4q(K:List Kw)(hK:K.length<=4294967296)(hKb:∀k∈K,k.ks.length<=4294967296)(din:D)(hin:B0 din (E6 K)):∀p:Pl,H2 p<=24->pw p+552*jn p+23<=1073741824->(C4 K p).2=0->
  C0 Tryz.prog P9 [.ptr 0 0,p.av] (F4 din) (λr os=>r=(O7 K p).av/\os=F4 din):=by
 refine Pl.ind λo ni ins ih hd hb h0=>?_
 obtain⟨k1,k2,k3,k4,k5,k6⟩:=n5 h0
 have hpb:(Pl.mk o ni ins).bk<=1073741824:=by have:=(Z6 (.mk o ni ins)).1;omega
 have ih':=λx hx=>ih x hx (by have:=A6Z hx;rw[H2] at hd;omega) (by have:=B3h hx;rw[pw,jn] at hb;omega) (k3 x hx)
 by_cases h3:o.op=3
 ·rw[h3] at k2
  obtain⟨x,rfl⟩:=A5L (show ins.length=1 by have:J8 3=1:=rfl;omega)
  rw[A9S K h3]
  rw[A6X] at hd
  obtain⟨p1,p2⟩:=A7H o ni x
  rw[if_neg (by omega)] at p2
  have ew:wp1 o=max (o.pred.bk+8) (aL (cj o.pred)):=if_pos h3
  obtain⟨q1,q2⟩:=B3e x 23 (by omega) (k3 x (by simp))
  have a1:=A34 (j6 0) (cj (A9 0 o.pred))
  have a2:=A34 (j6 0) (cj o.pred)
  rw[<- B26] at a2
  have hyb:=(Z6 (O7 K x)).1
  exact C6L K hK hKb din hin o ni h3 x (O7 K x) _ hpb (by omega) (ih' x (by simp)) (C6D K hK hKb din hin (C4s x (k3 x (by simp))) _ (A4C _) (by omega) _ _ (by rw[A48];exact C7))
 ·rw[A9T K h3]
  exact C6N din (O7 K) o ni ins h3 hpb ih'
def j5(K:List Kw)(p q:Pl):Pl:=if (B9 K q).2=0/\(B9 K p).1.ks=(B9 K q).1.ks then q else V7 p
theorem B4R(K:List Kw)(hK:K.length<=4294967296)(hKb:∀k∈K,k.ks.length<=4294967296)(din:D)(hin:B0 din (E6 K))(g:FuncId)(p q:Pl)(hpb:p.bk<=1073741824)(hqb:q.bk<=1073741824)(hg:C0 Tryz.prog g [.ptr 0 0,p.av] (F4 din) (λr os=>r=q.av/\os=F4 din))(h1:(B9 K p).2=0) :
  C0 Tryz.prog A1G [.ptr 0 0,p.av,.bcl g 0] (F4 din) (λr os=>r=(j5 K p q).av/\os=F4 din):=by
 have hCp:=A3y K hK hKb din hin p hpb
 have hCq:=A3y K hK hKb din hin q hqb
 have hl1:=A5r K p
 have hl2:=A5r K q
 have hE:=B0O (B9 K p).1.ks (B9 K q).1.ks (by omega) (by omega) (B9 K p).1.d (B9 K q).1.d C7 C7
 have hL:=B4n p hpb
 rw[h1] at hCp
 have hs:((B9 K q).2=0/\(B9 K p).1.ks=(B9 K q).1.ks/\j5 K p q=q)\/((B9 K q).2=0/\¬(B9 K p).1.ks=(B9 K q).1.ks/\j5 K p q=V7 p)\/(¬(B9 K q).2=0/\j5 K p q=V7 p):=by
  unfold j5
  by_cases c1:(B9 K q).2=0
  ·by_cases c2:(B9 K p).1.ks=(B9 K q).1.ks
   ·exact .inl ⟨c1,c2,if_pos ⟨c1,c2⟩⟩
   ·exact .inr (.inl ⟨c1,c2,if_neg λh=>c2 h.2⟩)
  ·exact .inr (.inr ⟨c1,if_neg λh=>c1 h.1⟩)
 clear hl1 hl2 h1 hpb hqb
 obtain⟨kp,hkp⟩:∃d,d=(B9 K p).1.d:=⟨_,rfl⟩
 obtain⟨kq,hkq⟩:∃d,d=(B9 K q).1.d:=⟨_,rfl⟩
 rw[<- hkp] at hCp hE
 rw[<- hkq] at hCq hE
 clear hkp hkq
 have hgL:=λrest=>n9 hg (A21 _) (λf=>Q9 f _) rest
 clear hg
 obtain⟨ao,an,ak,ar,axo,axn,axv,axm,axd,adx,ady,ada,adi,a1,a2⟩:=Pl.cut p
 obtain⟨bo,bn,bk,br,bxo,bxn,bxv,bxm,bxd,bdx,bdy,bda,bdi,b1,b2⟩:=Pl.cut q
 obtain⟨co,cn,ck,cr,cxo,cxn,cxv,cxm,cxd,cdx,cdy,cda,cdi,c1,c2⟩:=Pl.cut (V7 p)
 have r0:axv.s=axv.s:=rfl
 have r1:axm=axm:=rfl
 have r2:bxv.s=bxv.s:=rfl
 have r3:bxm=bxm:=rfl
 rcases hs with ⟨s1,s2,s3⟩|⟨s1,s2,s3⟩|⟨s1,s3⟩
 ·rw[decide_eq_true s2] at hE
  rw[s1] at hCq
  rw[s3]
  clear s1 s2 s3 hL
  rw[a2] at hCp hgL ⊢
  rw[b2] at hCq hgL ⊢
  clear a1 a2 b1 b2 c1 c2
  refine A4q.goX A6 rfl ?_
  repeat' first|refine st ?_|((with_reducible apply A4);conv=>whnf)|((with_reducible first|apply O1|apply O0);(·exact hgL _);(try rintro _ _ ⟨rfl,rfl⟩))|((with_reducible apply O2);(·exact hgL _))|refine⟨λ_=>?_,λ_=>?_⟩|fail
  all_goals exact⟨rfl,rfl⟩
 ·rw[decide_eq_false s2] at hE
  rw[s1] at hCq
  rw[s3]
  clear s1 s2 s3
  rw[c2] at hL ⊢
  rw[a2] at hCp hgL hL ⊢
  rw[b2] at hCq hgL
  clear a1 a2 b1 b2 c1 c2
  refine A4q.goX A6 rfl ?_
  repeat' first|refine st ?_|((with_reducible apply A4);conv=>whnf)|((with_reducible first|apply O1|apply O0);(·exact hgL _);(try rintro _ _ ⟨rfl,rfl⟩))|((with_reducible apply O2);(·exact hgL _))|refine⟨λ_=>?_,λ_=>?_⟩|fail
  all_goals exact⟨rfl,rfl⟩
 ·obtain⟨e,he⟩:∃e,e=(B9 K q).2:=⟨_,rfl⟩
  rw[<- he] at hCq s1
  rw[s3]
  clear he s3
  rw[c2] at hL ⊢
  rw[a2] at hCp hgL hL ⊢
  rw[b2] at hCq hgL
  clear a1 a2 b1 b2 c1 c2 hE
  refine A4q.goX A6 rfl ?_
  repeat' first|refine st ?_|((with_reducible apply A4);conv=>whnf)|((with_reducible first|apply O1|apply O0);(·exact hgL _);(try rintro _ _ ⟨rfl,rfl⟩))|((with_reducible apply O2);(·exact hgL _))|refine⟨λ_=>?_,λ_=>?_⟩|fail
  all_goals first|exact⟨rfl,rfl⟩|(exfalso;omega)
theorem C7L(K:List Kw)(hK:K.length<=4294967296)(hKb:∀k∈K,k.ks.length<=4294967296)(din:D)(hin:B0 din (E6 K))(g:FuncId)(p q:Pl)(hpb:p.bk<=1073741824)(hqb:q.bk<=1073741824)(hg:Bi.Pure Tryz.prog g [p.av] q.av)(h1:(B9 K p).2=0) :
  C0 Tryz.prog A1G [.ptr 0 0,p.av,.d (.fn g)] (F4 din) (λr os=>r=(j5 K p q).av/\os=F4 din):=by
 have hCp:=A3y K hK hKb din hin p hpb
 have hCq:=A3y K hK hKb din hin q hqb
 have hl1:=A5r K p
 have hl2:=A5r K q
 have hE:=B0O (B9 K p).1.ks (B9 K q).1.ks (by omega) (by omega) (B9 K p).1.d (B9 K q).1.d C7 C7
 have hL:=B4n p hpb
 rw[h1] at hCp
 have hs:((B9 K q).2=0/\(B9 K p).1.ks=(B9 K q).1.ks/\j5 K p q=q)\/((B9 K q).2=0/\¬(B9 K p).1.ks=(B9 K q).1.ks/\j5 K p q=V7 p)\/(¬(B9 K q).2=0/\j5 K p q=V7 p):=by
  unfold j5
  by_cases c1:(B9 K q).2=0
  ·by_cases c2:(B9 K p).1.ks=(B9 K q).1.ks
   ·exact .inl ⟨c1,c2,if_pos ⟨c1,c2⟩⟩
   ·exact .inr (.inl ⟨c1,c2,if_neg λh=>c2 h.2⟩)
  ·exact .inr (.inr ⟨c1,if_neg λh=>c1 h.1⟩)
 clear hl1 hl2 h1 hpb hqb
 obtain⟨kp,hkp⟩:∃d,d=(B9 K p).1.d:=⟨_,rfl⟩
 obtain⟨kq,hkq⟩:∃d,d=(B9 K q).1.d:=⟨_,rfl⟩
 rw[<- hkp] at hCp hE
 rw[<- hkq] at hCq hE
 clear hkp hkq
 have hgL:=hg
 clear hg
 obtain⟨ao,an,ak,ar,axo,axn,axv,axm,axd,adx,ady,ada,adi,a1,a2⟩:=Pl.cut p
 obtain⟨bo,bn,bk,br,bxo,bxn,bxv,bxm,bxd,bdx,bdy,bda,bdi,b1,b2⟩:=Pl.cut q
 obtain⟨co,cn,ck,cr,cxo,cxn,cxv,cxm,cxd,cdx,cdy,cda,cdi,c1,c2⟩:=Pl.cut (V7 p)
 have r0:axv.s=axv.s:=rfl
 have r1:axm=axm:=rfl
 have r2:bxv.s=bxv.s:=rfl
 have r3:bxm=bxm:=rfl
 rcases hs with ⟨s1,s2,s3⟩|⟨s1,s2,s3⟩|⟨s1,s3⟩
 ·rw[decide_eq_true s2] at hE
  rw[s1] at hCq
  rw[s3]
  clear s1 s2 s3 hL
  rw[a2] at hCp hgL ⊢
  rw[b2] at hCq hgL ⊢
  clear a1 a2 b1 b2 c1 c2
  refine A4q.goX A6 rfl ?_
  repeat' first|refine st ?_|((with_reducible apply A4);conv=>whnf)|refine⟨λ_=>?_,λ_=>?_⟩|fail
  all_goals exact⟨rfl,rfl⟩
 ·rw[decide_eq_false s2] at hE
  rw[s1] at hCq
  rw[s3]
  clear s1 s2 s3
  rw[c2] at hL ⊢
  rw[a2] at hCp hgL hL ⊢
  rw[b2] at hCq hgL
  clear a1 a2 b1 b2 c1 c2
  refine A4q.goX A6 rfl ?_
  repeat' first|refine st ?_|((with_reducible apply A4);conv=>whnf)|refine⟨λ_=>?_,λ_=>?_⟩|fail
  all_goals exact⟨rfl,rfl⟩
 ·obtain⟨e,he⟩:∃e,e=(B9 K q).2:=⟨_,rfl⟩
  rw[<- he] at hCq s1
  rw[s3]
  clear he s3
  rw[c2] at hL ⊢
  rw[a2] at hCp hgL hL ⊢
  rw[b2] at hCq hgL
  clear a1 a2 b1 b2 c1 c2 hE
  refine A4q.goX A6 rfl ?_
  repeat' first|refine st ?_|((with_reducible apply A4);conv=>whnf)|refine⟨λ_=>?_,λ_=>?_⟩|fail
  all_goals first|exact⟨rfl,rfl⟩|(exfalso;omega)
theorem C1T:∀p:Pl,(V7 p).bk<=p.bk/\jn (V7 p)=jn p:=by
 refine Pl.ind λo ni ins ih=>?_
 rw[A98]
 refine⟨C1u o ni ins λx hx=>(ih x hx).1,?_⟩
 rw[jn,jn]
 have:∀l:List Pl,(∀x∈l,jn (V7 x)=jn x)->U0 (l.map V7)=U0 l:=by
  intro l
  induction l with
  |nil=>intro _;rfl
  |cons a l ihl=>intro h;rw[G5,U0,U0,h a (by simp),ihl λb hb=>h b (by simp[hb])]
 rw[this ins λx hx=>(ih x hx).2]
theorem C2Q:∀p:Pl,(M7 p).bk<=p.bk/\jn (M7 p)<=jn p:=by
 refine Pl.ind λo ni ins ih=>?_
 have hk:=C1v o ni ins λx hx=>(ih x hx).1
 have hj:∀l:List Pl,(∀x∈l,jn (M7 x)<=jn x)->U0 (l.map M7)<=U0 l:=by
  intro l
  induction l with
  |nil=>intro _;exact D4 _
  |cons a l ihl=>
   intro h
   have h1:=h a (by simp)
   have h2:=ihl λb hb=>h b (by simp[hb])
   rw[G5,U0,U0];omega
 have hj:=hj ins λx hx=>(ih x hx).2
 have hn:(Pl.mk (fdO o) true (ins.map M7)).bk<=(Pl.mk o ni ins).bk/\jn (.mk (fdO o) true (ins.map M7))<=jn (.mk o ni ins):=by
  refine⟨hk,?_⟩
  rw[jn,jn]
  show(if o.op=5\/o.op=6 then 1 else 0)+_<=_
  omega
 rw[B2q]
 by_cases h1:ins.length=1
 ·obtain⟨x,rfl⟩:=A5L h1
  rw[G5,V5,B2p]
  split
  ·have h2:=ih x (by simp)
   have h3:=Pl.bk_arg (o:=o) (ni:=ni) (ins:=[x]) (a:=x) (by simp)
   have h4:=(A7H o ni x).2
   omega
  ·exact hn
 ·rw[B2o _ _ (by rw[D3];exact h1)]
  exact hn
theorem D7E{K:List Kw}:∀p:Pl,(C4 K p).2=0->(C4 K (V7 p)).2=0/\(C4 K (V7 p)).1.ks=(C4 K p).1.ks/\H2 (V7 p)<=H2 p:=by
 refine Pl.ind λo ni ins ih h0=>?_
 obtain⟨k1,k2,k3,k4,k5,k6⟩:=n5 h0
 rw[A98]
 obtain⟨n1,n2⟩:=C3W (e8.cp o) (ni':=true) h0 λx hx=>⟨(ih x hx (k3 x hx)).1,(ih x hx (k3 x hx)).2.1⟩
 refine⟨n1,n2,?_⟩
 rw[H2,H2]
 have:=B2c (l:=ins) (Φ:=V7) λx hx=>(ih x hx (k3 x hx)).2.2
 omega
theorem A3m{K:List Kw}{p:Pl}(q:Pl)(h:(B9 K p).2=0):(B9 K (j5 K p q)).2=0/\(B9 K (j5 K p q)).1.ks=(B9 K p).1.ks:=by
 unfold j5
 by_cases c:(B9 K q).2=0/\(B9 K p).1.ks=(B9 K q).1.ks
 ·rw[if_pos c];exact⟨c.1,c.2.symm⟩
 ·rw[if_neg c]
  obtain⟨h1,h2,h3⟩:=S9 h
  obtain⟨c1,c2,c3⟩:=D7E p h2
  rw[A3a (by omega),h3]
  exact⟨c1,c2⟩
theorem PlE.trans{I:List Bg}{p q r:Pl}(h:PlE I p q)(k:PlE I q r):PlE I p r:=
 ⟨k.e,k.ks.trans h.ks,k.ki.trans h.ki,k.rows.trans h.rows,k.sz.trans h.sz,s7 k.lg h.lg,k.sc.trans h.sc⟩
abbrev Q5(K:List Kw)(p:Pl):Pl:=j5 K p (M7 p)
abbrev puP(K:List Kw)(p:Pl):Pl:=j5 K p (O7 K p)
abbrev Z8(K:List Kw)(p:Pl):Pl:=puP K (Q5 K p)
theorem A7f(K:List Kw)(p:Pl):(Q5 K p).bk<=p.bk/\jn (Q5 K p)<=jn p:=by
 unfold Q5 j5
 split
 ·exact C2Q p
 ·have:=C1T p;omega
theorem B3d{K:List Kw}{p:Pl}(h:(B9 K p).2=0):pw (O7 K p)<=pw p+552*jn p/\jn (O7 K p)=jn p:=by
 obtain⟨h1,h2,_⟩:=S9 h
 have h3:=B3e p 24 h1 h2
 omega
theorem A9U{K:List Kw}{p:Pl}(h:(B9 K p).2=0):(puP K p).bk<=pw p+552*jn p/\pw (puP K p)<=4*p.bk+552*jn p/\jn (puP K p)=jn p:=by
 have h3:=Z6 p
 unfold puP j5
 split
 ·have h1:=B3d h
  have h2:=Z6 (O7 K p)
  omega
 ·have h1:=C1T p
  have h2:=Z6 (V7 p)
  omega
theorem D8Y{I:List Bg}(hI:InG I){p:Pl}(hb:p.bk<=1073741824)(h:(B9 (B7 I) p).2=0)(hl:K7 (F6 I) p<=2000):PlE I p (Q5 (B7 I) p):=by
 have h0:=(S9 h).2.1
 unfold Q5 j5
 split
 ·exact(C2R hI p hb h0 hl).1.toPlE
 ·exact(C1U hI p hb h0 hl).toPlE
theorem C4t{I:List Bg}(hI:InG I){p:Pl}(hb:pw p+552*jn p<=1073741824)(h:(B9 (B7 I) p).2=0)(hl:K7 (F6 I) p<=2000):PlE I p (puP (B7 I) p):=by
 obtain⟨h1,h0,_⟩:=S9 h
 have h4:=Z6 p
 unfold puP j5
 split
 ·rename_i c
  exact E1g hI p h1 (by omega) h0 hl c.1
 ·exact(C1U hI p (by omega) h0 hl).toPlE
theorem B3m{I:List Bg}(hI:InG I){p:Pl}(hb:4*p.bk+552*jn p<=1073741824)(h:(B9 (B7 I) p).2=0)(hl:K7 (F6 I) p<=2000):PlE I p (Z8 (B7 I) p)/\(B9 (B7 I) (Z8 (B7 I) p)).2=0:=by
 have F:=D8Y hI (by omega) h hl
 have hF:=(A3m (M7 p) h).1
 have hb2:=A7f (B7 I) p
 have hb3:=Z6 (Q5 (B7 I) p)
 exact⟨F.trans (C4t hI (by omega) hF (s7 F.lg hl)),(A3m _ hF).1⟩
theorem C68(K:List Kw)(hK:K.length<=4294967296)(hKb:∀k∈K,k.ks.length<=4294967296)(din:D)(hin:B0 din (E6 K))(p:Pl)(hb:pw p+552*jn p+23<=1073741824)(h:(B9 K p).2=0):Pure Tryz.prog A6t [p.av,.d din] (puP K p).av:=by
 have h4:=Z6 p
 have h5:=Z6 (O7 K p)
 have h6:=B3d h
 have hS:=B4R K hK hKb din hin P9 p (O7 K p) (by omega) (by omega) (B4q K hK hKb din hin p (S9 h).1 (by omega) (S9 h).2.1) h
 have hm1:∀(ds:List D) n,[AV.ptr 0 0,.agg (ds.map .d),.bcl P9 0].map (mG (rn [2] n))=[.ptr 2 0,.agg (ds.map .d),.bcl P9 2]:=λds n=>by
  rw[G5,G5,G5,V5,A1Z];rfl
 have hSL:=λos (ho:os[2]?=some (AO.cells [.d din]))=>A2F 2 hS (hm1 p.ds) (λa ha=>by
  simp only[I2,V6,or_false] at ha
  rcases ha with rfl|rfl|rfl
  ·simp[AV.bnd2,AV.bnd1]
  ·exact w9 _ _
  ·simp[AV.bnd2,AV.bnd1]) (λf=>Q9 f _) os ho
 have hSL:∀os:List AO,os[2]?=some (AO.cells [.d din])->C0 Tryz.prog A1G [.ptr 2 0,.agg (p.ds.map .d),.bcl P9 2] os (λr' os'=>r'=(puP K p).av/\os'=os):=hSL
 obtain⟨q,hq⟩:∃q,q=puP K p:=⟨_,rfl⟩
 rw[<- hq] at hSL ⊢
 clear hS hm1 hq h4 h5 h6 h hb
 obtain⟨ao,an,ak,ar,axo,axn,axv,axm,axd,adx,ady,ada,adi,a1,a2⟩:=Pl.cut p
 obtain⟨bo,bn,bk',br,bxo,bxn,bxv,bxm,bxd,bdx,bdy,bda,bdi,b1,b2⟩:=Pl.cut q
 have hSL:∀os:List AO,os[2]?=some (AO.cells [.d din])->C0 Tryz.prog A1G [.ptr 2 0,F3 ao an ak ar axo axn axv axm axd adx ady ada adi,.bcl P9 2] os (λr' os'=>r'=F3 bo bn bk' br bxo bxn bxv bxm bxd bdx bdy bda bdi/\os'=os):=λos ho=>by
  have:=hSL os ho
  rw[a1] at this
  rw[<- b2]
  exact this
 rw[a2,b2]
 clear a1 a2 b1 b2
 have r0:axv.s=axv.s:=rfl
 have r1:axm=axm:=rfl
 have r2:bxv.s=bxv.s:=rfl
 have r3:bxm=bxm:=rfl
 refine B5d.go A6 rfl ?_
 repeat' first|refine st ?_|((with_reducible apply A4);conv=>whnf)|((with_reducible first|apply O1|apply O0);(·exact hSL _ rfl);(try rintro _ _ ⟨rfl,rfl⟩))|((with_reducible apply O2);(·exact hSL _ rfl))|refine⟨λ_=>?_,λ_=>?_⟩|fail
 all_goals rfl
abbrev A74:AV:=F3 0 0 .nil .nil 0 0 C5 [] .nil .nil .nil .nil .nil
theorem B0B(K:List Kw)(hK:K.length<=4294967296)(hKb:∀k∈K,k.ks.length<=4294967296)(din:D)(hin:B0 din (E6 K))(p:Pl)(hb:4*p.bk+552*jn p+23<=1073741824):Pure Tryz.prog A6u [p.av,.d din] (.tup [if (B9 K p).2=0 then (Z8 K p).av else A74,.d (eI (B9 K p).2)]):=by
 have hC:=A3y K hK hKb din hin p (by omega)
 obtain⟨kd,hkd⟩:∃d,d=(B9 K p).1.d:=⟨_,rfl⟩
 rw[<- hkd] at hC
 clear hkd
 by_cases h:(B9 K p).2=0
 rotate_left
 ·rw[if_neg h]
  obtain⟨e,he⟩:∃e,e=(B9 K p).2:=⟨_,rfl⟩
  rw[<- he] at hC h ⊢
  clear he
  obtain⟨ao,an,ak,ar,axo,axn,axv,axm,axd,adx,ady,ada,adi,a1,a2⟩:=Pl.cut p
  rw[a2] at hC ⊢
  clear a1 a2
  have r0:axv.s=axv.s:=rfl
  have r1:axm=axm:=rfl
  refine B5e.go A6 rfl ?_
  repeat' first|refine st ?_|((with_reducible apply A4);conv=>whnf)|refine⟨λ_=>?_,λ_=>?_⟩|fail
  all_goals first|rfl|(exfalso;omega)
 ·rw[if_pos h]
  have hF:(B9 K (Q5 K p)).2=0:=(A3m (M7 p) h).1
  have g1:=A7f K p
  have g2:=C2Q p
  have g4:=Z6 (Q5 K p)
  have g5:=Z6 (O7 K (Q5 K p))
  have g6:=B3d hF
  have hS1:=C7L K hK hKb din hin A2h p (M7 p) (by omega) (by omega) (B4l p (by omega)) h
  have hS2:=B4R K hK hKb din hin P9 (Q5 K p) (O7 K (Q5 K p)) (by omega) (by omega) (B4q K hK hKb din hin (Q5 K p) (S9 hF).1 (by omega) (S9 hF).2.1) hF
  rw[h] at hC ⊢
  have hm1:∀(ds:List D) n,[AV.ptr 0 0,.agg (ds.map .d),.d (.fn A2h)].map (mG (rn [2] n))=[.ptr 2 0,.agg (ds.map .d),.d (.fn A2h)]:=λds n=>by
   rw[G5,G5,G5,V5,A1Z];rfl
  have hm2:∀(ds:List D) n,[AV.ptr 0 0,.agg (ds.map .d),.bcl P9 0].map (mG (rn [2] n))=[.ptr 2 0,.agg (ds.map .d),.bcl P9 2]:=λds n=>by
   rw[G5,G5,G5,V5,A1Z];rfl
  have hL1:=λos (ho:os[2]?=some (AO.cells [.d din]))=>A2F 2 hS1 (hm1 p.ds) (λa ha=>by
   simp only[I2,V6,or_false] at ha
   rcases ha with rfl|rfl|rfl
   ·simp[AV.bnd2,AV.bnd1]
   ·exact w9 _ _
   ·simp[AV.bnd2,AV.bnd1]) (λf=>Q9 f _) os ho
  have hL2:=λos (ho:os[2]?=some (AO.cells [.d din]))=>A2F 2 hS2 (hm2 (Q5 K p).ds) (λa ha=>by
   simp only[I2,V6,or_false] at ha
   rcases ha with rfl|rfl|rfl
   ·simp[AV.bnd2,AV.bnd1]
   ·exact w9 _ _
   ·simp[AV.bnd2,AV.bnd1]) (λf=>Q9 f _) os ho
  obtain⟨q,hq⟩:∃q,q=Z8 K p:=⟨_,rfl⟩
  obtain⟨f,hf⟩:∃f,f=Q5 K p:=⟨_,rfl⟩
  have hL2:∀os:List AO,os[2]?=some (AO.cells [.d din])->C0 Tryz.prog A1G [.ptr 2 0,.agg ((Q5 K p).ds.map .d),.bcl P9 2] os (λr' os'=>r'=(Z8 K p).av/\os'=os):=hL2
  have hL1:∀os:List AO,os[2]?=some (AO.cells [.d din])->C0 Tryz.prog A1G [.ptr 2 0,.agg (p.ds.map .d),.d (.fn A2h)] os (λr' os'=>r'=(Q5 K p).av/\os'=os):=hL1
  rw[<- hq] at hL2 ⊢
  rw[<- hf] at hL1 hL2
  clear hS1 hS2 hm1 hm2 hq hf g1 g2 g4 g5 g6 hF h hb
  obtain⟨ao,an,ak,ar,axo,axn,axv,axm,axd,adx,ady,ada,adi,a1,a2⟩:=Pl.cut p
  obtain⟨bo,bn,bk',br,bxo,bxn,bxv,bxm,bxd,bdx,bdy,bda,bdi,b1,b2⟩:=Pl.cut q
  obtain⟨fo,fn,fk,fr,fxo,fxn,fxv,fxm,fxd,fdx,fdy,fda,fdi,f1,f2⟩:=Pl.cut f
  have hL1:∀os:List AO,os[2]?=some (AO.cells [.d din])->C0 Tryz.prog A1G [.ptr 2 0,F3 ao an ak ar axo axn axv axm axd adx ady ada adi,.d (.fn A2h)] os (λr' os'=>r'=F3 fo fn fk fr fxo fxn fxv fxm fxd fdx fdy fda fdi/\os'=os):=λos ho=>by
   have:=hL1 os ho
   rw[a1] at this
   rw[<- f2]
   exact this
  have hL2:∀os:List AO,os[2]?=some (AO.cells [.d din])->C0 Tryz.prog A1G [.ptr 2 0,F3 fo fn fk fr fxo fxn fxv fxm fxd fdx fdy fda fdi,.bcl P9 2] os (λr' os'=>r'=F3 bo bn bk' br bxo bxn bxv bxm bxd bdx bdy bda bdi/\os'=os):=λos ho=>by
   have:=hL2 os ho
   rw[f1] at this
   rw[<- b2]
   exact this
  rw[a2] at hC ⊢
  rw[b2]
  clear a1 a2 b1 b2 f1 f2
  have r0:axv.s=axv.s:=rfl
  have r1:axm=axm:=rfl
  have r2:bxv.s=bxv.s:=rfl
  have r3:bxm=bxm:=rfl
  have r4:fxv.s=fxv.s:=rfl
  have r5:fxm=fxm:=rfl
  refine B5e.go A6 rfl ?_
  repeat' first|refine st ?_|((with_reducible apply A4);conv=>whnf)|((with_reducible first|apply O1|apply O0);(·first|exact hL1 _ rfl|exact hL2 _ rfl);(try rintro _ _ ⟨rfl,rfl⟩))|((with_reducible apply O2);(·first|exact hL1 _ rfl|exact hL2 _ rfl))|refine⟨λ_=>?_,λ_=>?_⟩|fail
  all_goals first|rfl|(exfalso;omega)
theorem C6R:Pure Tryz.prog A8E [.d .nil,.d .nil] (.d (.bool true)):=
 B4x [] [] rfl (by simp) (λi x y h _=>by simp at h) .nil .nil (.inl ⟨rfl,rfl⟩) (.inl ⟨rfl,rfl⟩)
abbrev zX0:Ex:=.mk 0 0 C5 [] true []
theorem C6S:Pure Tryz.prog A8E [.d (.sl [zX0.ds]),.d (.sl [zX0.ds])] (.d (.bool true)):=by
 refine B4x [zX0] [zX0] rfl (by simp) (λi x y h1 h2=>?_) (.sl [zX0.ds]) (.sl [zX0.ds]) (.inr rfl) (.inr rfl)
 match i,h1,h2 with
 |0,h1,h2=>
  cases h1;cases h2
  have:=B4y zX0 (by decide) zX0 (by decide)
  rw[show T3 zX0 zX0=true by decide] at this
  exact this
theorem C6O:Pure Tryz.prog B1j [.d .nil,.d .nil] (.d (.bool true)):=by
 refine B50.go A6 rfl ?_
 repeat' first|refine st ?_|((with_reducible apply A4);conv=>whnf)|refine⟨λ_=>?_,λ_=>?_⟩|fail
 refine A0X 1 (j8 A6 ?_)
 repeat' first|refine st ?_|((with_reducible apply A4);conv=>whnf)|refine⟨λ_=>?_,λ_=>?_⟩|fail
 all_goals rfl
theorem C76:Pure Tryz.prog B9D [A74,A74] (.d (.bool true)):=by
 have h1:=B0L [] (by simp) .nil .nil (.inl ⟨rfl,rfl⟩) (.inl ⟨rfl,rfl⟩)
 have h2:=C6O
 have h3:=C6R
 have h4:=C6S
 have h5:Pure Tryz.prog B1u [.d .nil,.d .nil] (.d (.bool true)):=by
  refine C98.go A6 rfl ?_
  repeat' first|refine st ?_|((with_reducible apply A4);conv=>whnf)|refine⟨λ_=>?_,λ_=>?_⟩|fail
  all_goals rfl
 have h6:Pure Tryz.prog A6r [.d .nil,.d .nil] (.d (.bool true)):=by
  refine B54.go A6 rfl ?_
  repeat' first|refine st ?_|((with_reducible apply A4);conv=>whnf)|refine⟨λ_=>?_,λ_=>?_⟩|fail
  all_goals rfl
 have h7:Pure Tryz.prog A6r [.d (.sl [zX0.ds]),.d (.sl [zX0.ds])] (.d (.bool true)):=by
  obtain⟨z,hz⟩:∃z,z=zX0.ds:=⟨_,rfl⟩
  rw[<- hz] at h4 ⊢
  refine B54.go A6 rfl ?_
  repeat' first|refine st ?_|((with_reducible apply A4);conv=>whnf)|refine⟨λ_=>?_,λ_=>?_⟩|fail
  all_goals rfl
 have e:zX0.ds=[eI 0,eI 0,eI 0,eI 0,.str [],.str [],.nil]:=by rw[Ex.ds_mk];rfl
 rw[e] at h7
 have h8:Pure Tryz.prog B9E [A74,A74] (.d (.bool true)):=by
  refine C97.go A6 rfl ?_
  repeat' first|refine st ?_|((with_reducible apply A4);conv=>whnf)|refine⟨λ_=>?_,λ_=>?_⟩|fail
  refine A0X 1 (j8 A6 ?_)
  repeat' first|refine st ?_|((with_reducible apply A4);conv=>whnf)|refine⟨λ_=>?_,λ_=>?_⟩|fail
  all_goals rfl
 refine C96.go A6 rfl ?_
 repeat' first|refine st ?_|((with_reducible apply A4);conv=>whnf)|refine⟨λ_=>?_,λ_=>?_⟩|fail
 refine A0X 1 (j8 A6 ?_)
 repeat' first|refine st ?_|((with_reducible apply A4);conv=>whnf)|refine⟨λ_=>?_,λ_=>?_⟩|fail
 all_goals rfl
theorem D0M(p:Pl)(hp:p.bk<=1024*1024)(I:List Bg)(hI:I.length<=1073741824)(hb:∀b∈I,b.ki.length<=1073741824/\b.rows.length<=1073741824/\∀r∈b.rows,r.vs.length<=1073741824/\∀v∈r.vs,v.s.length<=1073741824)(din:D)(hin:B0 din (V9 I)) :
  Pure Tryz.prog B8T [p.av,.d din] (.d (.bool true)):=by
 have hW:=B4f
 have hjb:=Z6 p
 have hKb:∀k∈B7 I,k.ks.length<=4294967296:=λk hk=>by
  obtain⟨b,hb1,rfl⟩:=D9.1 hk
  have:=(hb b hb1).1
  show b.ki.length<=4294967296
  omega
 have hKl:(B7 I).length<=4294967296:=by rw[D3];omega
 have hKs:=A8d I (by omega) din hin
 have hN:=B0B (B7 I) hKl hKb (.sl (E6 (B7 I))) (.inr rfl) p (by omega)
 have hC:=A6e (B7 I) hKl hKb (.sl (E6 (B7 I))) (.inr rfl) p (by omega)
 have hR:=B4h I hI hb din hin p (by omega)
 obtain⟨kd,hkd⟩:∃d,d=(B9 (B7 I) p).1.d:=⟨_,rfl⟩
 rw[<- hkd] at hC
 clear hkd
 obtain⟨z,hz⟩:∃z,z=E6 (B7 I):=⟨_,rfl⟩
 rw[<- hz] at hKs hN hC
 clear hz
 by_cases h:(B9 (B7 I) p).2=0
 ·have hE:rnB I p=true->Bi.Pure Tryz.prog B1f [p.av,(Z8 (B7 I) p).av,.d din] (.d (.bool true)):=λhr=>by
   unfold rnB at hr
   rw[J9,J9] at hr
   obtain⟨⟨_,h2⟩,h3⟩:=hr
   have h3:=of_decide_eq_true h3
   have hG:=C5w h2
   obtain⟨g1,g2⟩:=B3m hG (by omega) h h3
   have hF:(B9 (B7 I) (Q5 (B7 I) p)).2=0:=(A3m (M7 p) h).1
   have hb1:=A7f (B7 I) p
   have hb2:=A9U hF
   have hb3:=Z6 (Q5 (B7 I) p)
   exact B0H hI hb hG din hin p (Z8 (B7 I) p) (by omega) h h3 (by show(puP (B7 I) (Q5 (B7 I) p)).bk<=1073741824;omega) g2 g1
  rw[if_pos h,h] at hN
  rw[h] at hC
  obtain⟨q,hq⟩:∃q,q=Z8 (B7 I) p:=⟨_,rfl⟩
  have hN:Bi.Pure Tryz.prog A6u [p.av,.d (.sl z)] (.tup [(Z8 (B7 I) p).av,.d (eI 0)]):=hN
  rw[<- hq] at hN hE
  clear hq h hKl hKb hb hjb
  obtain⟨op,n,dk,dr,xo,xn,xv,xm,xd,dx,dy,da,di,c1,c2⟩:=Pl.cut p
  obtain⟨op',n',dk',dr',xo',xn',xv',xm',xd',dx',dy',da',di',c3,c4⟩:=Pl.cut q
  rw[c2] at hN hC hR hE ⊢
  rw[c4] at hN hE
  clear c1 c2 c3 c4
  have r1:xv.s=xv.s:=rfl
  have r2:xm=xm:=rfl
  have r3:xv'.s=xv'.s:=rfl
  have r4:xm'=xm':=rfl
  cases hr:rnB I p with
  |false=>
   rw[hr] at hR
   clear hE
   refine B0Q.go A6 rfl ?_
   repeat' first|refine st ?_|((with_reducible apply A4);conv=>whnf)|refine⟨λ_=>?_,λ_=>?_⟩|fail
   all_goals rfl
  |true=>
   rw[hr] at hR
   have hE:=hE hr
   refine B0Q.go A6 rfl ?_
   repeat' first|refine st ?_|((with_reducible apply A4);conv=>whnf)|refine⟨λ_=>?_,λ_=>?_⟩|fail
   all_goals rfl
 ·rw[if_neg h] at hN
  have hS:=C76
  obtain⟨e,he⟩:∃e,e=(B9 (B7 I) p).2:=⟨_,rfl⟩
  rw[<- he] at hN hC h
  clear he hKl hKb hb hjb hR
  obtain⟨op,n,dk,dr,xo,xn,xv,xm,xd,dx,dy,da,di,c1,c2⟩:=Pl.cut p
  rw[c2] at hN hC ⊢
  clear c1 c2
  have r1:xv.s=xv.s:=rfl
  have r2:xm=xm:=rfl
  refine B0Q.go A6 rfl ?_
  repeat' first|refine st ?_|((with_reducible apply A4);conv=>whnf)|refine⟨λ_=>?_,λ_=>?_⟩|fail
  all_goals first|rfl|(exfalso;omega)
theorem D0L(p:Pl)(hp:p.bk<=1024*1024)(I:List Bg)(hI:I.length<=1073741824)(hb:∀b∈I,b.ki.length<=1073741824/\b.rows.length<=1073741824/\∀r∈b.rows,r.vs.length<=1073741824/\∀v∈r.vs,v.s.length<=1073741824)(din:D)(hin:B0 din (V9 I)) :
  Pure Tryz.prog B8S [p.av,.d din] (.d (.bool true)):=by
 have hW:=B4f
 have hR:=B4h I hI hb din hin p (by omega)
 cases hr:rnB I p with
 |false=>
  rw[hr] at hR
  obtain⟨op',n',dk',dr',xo',xn',xv',xm',xd',dx',dy',da',di',c1,c2⟩:=Pl.cut p
  rw[c2] at hR ⊢
  clear c1 c2 hr
  refine B4Z.go A6 rfl ?_
  repeat' first|refine st ?_|((with_reducible apply A4);conv=>whnf)|refine⟨λ_=>?_,λ_=>?_⟩|fail
  all_goals rfl
 |true=>
  rw[hr] at hR
  unfold rnB at hr
  rw[J9,J9] at hr
  obtain⟨⟨h1,h2⟩,h3⟩:=hr
  have h1:=of_decide_eq_true h1
  have h3:=of_decide_eq_true h3
  have hG:=C5w h2
  have hKb:∀k∈B7 I,k.ks.length<=4294967296:=λk hk=>by
   obtain⟨b,hb1,rfl⟩:=D9.1 hk
   have:=(hb b hb1).1
   show b.ki.length<=4294967296
   omega
  have hKl:(B7 I).length<=4294967296:=by rw[D3];omega
  have hKs:=A8d I (by omega) din hin
  -- the bounds of every plan on the way
  have b0:=Z6 p
  have f1:=A7f (B7 I) p
  have hF1:(B9 (B7 I) (Q5 (B7 I) p)).2=0:=(A3m (M7 p) h1).1
  have u1:=A9U hF1
  have hA:(B9 (B7 I) (Z8 (B7 I) p)).2=0:=(A3m _ hF1).1
  obtain⟨A1,_⟩:=B3m hG (by omega) h1 h3
  have hA1:=B0B (B7 I) hKl hKb (.sl (E6 (B7 I))) (.inr rfl) p (by omega)
  rw[if_pos h1,h1] at hA1
  obtain⟨a,ha⟩:∃a,a=Z8 (B7 I) p:=⟨_,rfl⟩
  have g1:=Z6 (Q5 (B7 I) p)
  have u1:(Z8 (B7 I) p).bk<=pw (Q5 (B7 I) p)+552*jn (Q5 (B7 I) p)/\pw (Z8 (B7 I) p)<=4*(Q5 (B7 I) p).bk+552*jn (Q5 (B7 I) p)/\jn (Z8 (B7 I) p)=jn (Q5 (B7 I) p):=u1
  have hA1:Bi.Pure Tryz.prog A6u [p.av,.d (.sl (E6 (B7 I)))] (.tup [(Z8 (B7 I) p).av,.d (eI 0)]):=hA1
  rw[<- ha] at u1 hA A1 hA1
  clear ha
  have hla:K7 (F6 I) a<=2000:=s7 A1.lg h3
  have f2:=A7f (B7 I) a
  have hF2:(B9 (B7 I) (Q5 (B7 I) a)).2=0:=(A3m (M7 a) hA).1
  have u2:=A9U hF2
  have hB:(B9 (B7 I) (Z8 (B7 I) a)).2=0:=(A3m _ hF2).1
  obtain⟨B1,_⟩:=B3m hG (by omega) hA hla
  have hB1:=B0B (B7 I) hKl hKb (.sl (E6 (B7 I))) (.inr rfl) a (by omega)
  rw[if_pos hA,hA] at hB1
  obtain⟨b,hbe⟩:∃b,b=Z8 (B7 I) a:=⟨_,rfl⟩
  have g2:=Z6 (Q5 (B7 I) a)
  have u2:(Z8 (B7 I) a).bk<=pw (Q5 (B7 I) a)+552*jn (Q5 (B7 I) a)/\pw (Z8 (B7 I) a)<=4*(Q5 (B7 I) a).bk+552*jn (Q5 (B7 I) a)/\jn (Z8 (B7 I) a)=jn (Q5 (B7 I) a):=u2
  have hB1:Bi.Pure Tryz.prog A6u [a.av,.d (.sl (E6 (B7 I)))] (.tup [(Z8 (B7 I) a).av,.d (eI 0)]):=hB1
  rw[<- hbe] at u2 hB B1 hB1
  clear hbe
  have hlb:K7 (F6 I) b<=2000:=s7 B1.lg hla
  have hP:=C68 (B7 I) hKl hKb (.sl (E6 (B7 I))) (.inr rfl) b (by omega) hB
  have u3:=A9U hB
  have hC0:(B9 (B7 I) (puP (B7 I) b)).2=0:=(A3m _ hB).1
  have P1:=C4t hG (by omega) hB hlb
  obtain⟨c,hce⟩:∃c,c=puP (B7 I) b:=⟨_,rfl⟩
  rw[<- hce] at hP u3 hC0 P1
  clear hce
  have hlc:K7 (F6 I) c<=2000:=s7 P1.lg hlb
  have D1:=(C2R hG c (by omega) (S9 hC0).2.1 hlc).1
  have hd0:(B9 (B7 I) (M7 c)).2=0:=by rw[A3a (J2 D1.dp (S9 hC0).1)];exact D1.e
  have hD:=B4l c (by omega)
  have hbd:=D1.bk
  have hQ1:=B0H hI hb hG din hin p b (by omega) h1 h3 (by omega) hB (A1.trans B1)
  have hQ2:=B0H hI hb hG din hin p (M7 c) (by omega) h1 h3 (by omega) hd0 (((A1.trans B1).trans P1).trans D1.toPlE)
  obtain⟨d,hde⟩:∃d,d=M7 c:=⟨_,rfl⟩
  rw[<- hde] at hD hQ2
  obtain⟨z,hz⟩:∃z,z=E6 (B7 I):=⟨_,rfl⟩
  rw[<- hz] at hKs hA1 hB1 hP
  clear hde hz hbd hd0 D1 hlc P1 hC0 u3 hlb B1 hB u2 hF2 f2 hla A1 hA u1 hF1 f1 b0 hKl hKb hG h1 h2 h3 hb
  obtain⟨po,pn,pk,pr,pxo,pxn,pxv,pxm,pxd,pdx,pdy,pda,pdi,p1,p2⟩:=Pl.cut p
  obtain⟨ao,an,ak,ar,axo,axn,axv,axm,axd,adx,ady,ada,adi,a1,a2⟩:=Pl.cut a
  obtain⟨bo,bn,bk',br,bxo,bxn,bxv,bxm,bxd,bdx,bdy,bda,bdi,b1,b2⟩:=Pl.cut b
  obtain⟨co,cn,ck,cr,cxo,cxn,cxv,cxm,cxd,cdx,cdy,cda,cdi,c1,c2⟩:=Pl.cut c
  obtain⟨do',dn,dk,dr,dxo,dxn,dxv,dxm,dxd,ddx,ddy,dda,ddi,d1,d2⟩:=Pl.cut d
  rw[p2] at hR hA1 hQ1 hQ2 ⊢
  rw[a2] at hA1 hB1
  rw[b2] at hB1 hP hQ1
  rw[c2] at hP hD
  rw[d2] at hD hQ2
  clear p1 p2 a1 a2 b1 b2 c1 c2 d1 d2
  have r1:pxv.s=pxv.s:=rfl
  have r2:pxm=pxm:=rfl
  have r3:axv.s=axv.s:=rfl
  have r4:axm=axm:=rfl
  have r5:bxv.s=bxv.s:=rfl
  have r6:bxm=bxm:=rfl
  have r7:cxv.s=cxv.s:=rfl
  have r8:cxm=cxm:=rfl
  have r9:dxv.s=dxv.s:=rfl
  have r10:dxm=dxm:=rfl
  refine B4Z.go A6 rfl ?_
  repeat' first|refine st ?_|((with_reducible apply A4);conv=>whnf)|refine⟨λ_=>?_,λ_=>?_⟩|fail
  all_goals rfl
abbrev C15:TypeId:=23
abbrev C0Z:TypeId:=99
abbrev C10:TypeId:=29
abbrev A8S:TypeId:=32
abbrev C14:TypeId:=30
abbrev C11:TypeId:=43
abbrev C12:TypeId:=33
theorem C1J:Tryz.prog.cellsOf C15=1:=by kernel_rfl
theorem D7u:Tryz.prog.cellsOf C0Z=2:=by kernel_rfl
theorem D7v:Tryz.prog.cellsOf C10=1:=by kernel_rfl
theorem D7x:Tryz.prog.cellsOf A8S=15:=by kernel_rfl
theorem D7y:Tryz.prog.cellsOf C14=1:=by kernel_rfl
theorem D7w:Tryz.prog.cellsOf C11=2:=by kernel_rfl
theorem C1I:Tryz.prog.cellsOf B1T=1:=by kernel_rfl
theorem B0c{d:D}{es:List (List D)}(h:B0 d es):∃nl,d=ng nl es:=by
 rcases h with ⟨rfl,rfl⟩|rfl
 ·exact⟨true,rfl⟩
 ·exact⟨false,rfl⟩
theorem B3T{ds:List D}(h:WT Tryz.prog B1T ds):∃nl ks,ds=[ng nl (A5 ks)]:=by
 obtain⟨d,ks,h1,h2⟩:=E2M h
 obtain⟨nl,h3⟩:=B0c h2
 exact⟨nl,ks,by rw[h1,h3]⟩
theorem C5F{ds:List D}(h:WT Tryz.prog C15 ds):∃nl l,ds=[ng nl (B6 l)]:=by
 obtain⟨d,es,h1,h2,h4,h3⟩:=h.sl' Tryz.underlying23
 have:∃c,es=B6 c:=by
  clear h1 h2 h4
  induction es with
  |nil=>exact⟨[],rfl⟩
  |cons x es ih=>
   obtain⟨d,row,hn,hs⟩:=E2O (h3 x (by simp))
   obtain⟨nl,hd⟩:=B0c hs
   obtain⟨ks,hk⟩:=ih λy hy=>h3 y (by simp[hy])
   exact⟨⟨nl,row⟩::ks,by rw[hn,hk,hd];rfl⟩
 obtain⟨c,rfl⟩:=this
 obtain⟨nl,h5⟩:=B0c h2
 exact⟨nl,c,by rw[h1,h5]⟩
theorem E2H{ds:List D}(h:WT Tryz.prog C0Z ds):∃a:Ag,ds=a.ds:=by
 obtain⟨hl,hf⟩:=h.st' Tryz.underlying99
 rw[D7u] at hl
 match ds,hl with
 |[d0,d1],_=>
  have h0:=hf _ (Y7 ..)
  have h1:=hf _ (I8 _ (Y7 ..))
  dsimp only at h0 h1
  rw[A92] at h0 h1
  obtain⟨a,h0⟩:=A3v h0
  obtain⟨b,h1⟩:=A3v h1
  simp at h0 h1
  exact⟨⟨a,b⟩,by rw[h0,h1]⟩
theorem E2I{ds:List D}(h:WT Tryz.prog C10 ds):∃nl l,ds=[ng nl (H4 l)]:=by
 obtain⟨d,es,h1,h2,h4,h3⟩:=h.sl' Tryz.underlying29
 have:∃c,es=H4 c:=by
  clear h1 h2 h4
  induction es with
  |nil=>exact⟨[],rfl⟩
  |cons x es ih=>
   obtain⟨a,hn⟩:=E2H (h3 x (by simp))
   obtain⟨ks,hk⟩:=ih λy hy=>h3 y (by simp[hy])
   exact⟨a::ks,by rw[hn,hk];rfl⟩
 obtain⟨c,rfl⟩:=this
 obtain⟨nl,h5⟩:=B0c h2
 exact⟨nl,c,by rw[h1,h5]⟩
theorem E2L{ds:List D}(h:WT Tryz.prog B1S ds):∃nl l,ds=[ng nl (xL l)]:=by
 obtain⟨nl,args,e⟩:=(C5D h).2 rfl
 exact⟨nl,args,e⟩
theorem E2N{t:TypeId}{ds:List D}(h:WT Tryz.prog t ds):(t=A8S->∃p:Pl,ds=p.ds)/\(t=C14->∃nl l,ds=[ng nl (pL l)]):=by
 induction h with
 |int h=>exact⟨λe=>(by subst e;rw[Tryz.underlying32] at h;cases h),λe=>(by subst e;rw[Tryz.underlying30] at h;cases h)⟩
 |bool h=>exact⟨λe=>(by subst e;rw[Tryz.underlying32] at h;cases h),λe=>(by subst e;rw[Tryz.underlying30] at h;cases h)⟩
 |str h=>exact⟨λe=>(by subst e;rw[Tryz.underlying32] at h;cases h),λe=>(by subst e;rw[Tryz.underlying30] at h;cases h)⟩
 |nil h=>exact⟨λe=>(by subst e;rw[Tryz.underlying32] at h;cases h),λe=>⟨true,[],rfl⟩⟩
 |@sl t e es h hl hs he ih=>
  refine⟨λe=>(by subst e;rw[Tryz.underlying32] at h;cases h),λe'=>?_⟩
  subst e'
  rw[Tryz.underlying30] at h
  cases h
  have:∃l,es=pL l:=by
   clear he hs hl
   induction es with
   |nil=>exact⟨[],rfl⟩
   |cons x es ihh=>
    obtain⟨n,hn⟩:=(ih x (by simp)).1 rfl
    obtain⟨ks,hk⟩:=ihh λy hy=>ih y (by simp[hy])
    exact⟨n::ks,by rw[hn,hk];rfl⟩
  obtain⟨l,rfl⟩:=this
  exact⟨false,l,rfl⟩
 |@st t fs ds h hl hf ih=>
  refine⟨λe=>?_,λe=>(by subst e;rw[Tryz.underlying30] at h;cases h)⟩
  subst e
  rw[Tryz.underlying32] at h
  cases h
  rw[D7x] at hl
  match ds,hl with
  |[d0,d1,d2,d3,d4,d5,d6,d7,d8,d9,d10,d11,d12,d13,d14],_=>
   have h0:=hf _ (Y7 ..)
   have h1:=hf _ (I8 _ (Y7 ..))
   have h2:=hf _ (I8 _ (I8 _ (Y7 ..)))
   have h3:=hf _ (I8 _ (I8 _ (I8 _ (Y7 ..))))
   have h4:=hf _ (I8 _ (I8 _ (I8 _ (I8 _ (Y7 ..)))))
   have h5:=hf _ (I8 _ (I8 _ (I8 _ (I8 _ (I8 _ (Y7 ..))))))
   have h6:=hf _ (I8 _ (I8 _ (I8 _ (I8 _ (I8 _ (I8 _ (Y7 ..)))))))
   have h7:=hf _ (I8 _ (I8 _ (I8 _ (I8 _ (I8 _ (I8 _ (I8 _ (Y7 ..))))))))
   have h8:=(ih _ (I8 _ (I8 _ (I8 _ (I8 _ (I8 _ (I8 _ (I8 _ (I8 _ (Y7 ..)))))))))).2 rfl
   dsimp only at h0 h1 h2 h3 h4 h5 h6 h7 h8
   rw[A92] at h0 h1
   rw[C1I] at h2 h6
   rw[C1J] at h3
   rw[C1G] at h4
   rw[C1H] at h5
   rw[D7v] at h7
   rw[D7y] at h8
   obtain⟨a,ha⟩:=A3v h0
   obtain⟨b,hb⟩:=A3v h1
   obtain⟨nk,ki,hk⟩:=B3T h2
   obtain⟨nr,rows,hr⟩:=C5F h3
   obtain⟨pred,hp⟩:=E2K h4
   obtain⟨nx,xs,hx⟩:=E2L h5
   obtain⟨ny,keys,hy⟩:=B3T h6
   obtain⟨na,aggs,hg⟩:=E2I h7
   obtain⟨ni,ins,hi⟩:=h8
   simp at ha hb hk hr hx hy hg hi
   refine⟨.mk ⟨a,b,nk,ki,nr,rows,pred,nx,xs,ny,keys,na,aggs⟩ ni ins,?_⟩
   rw[Pl.ds_mk,ha,hb,hk,hr,hx,hy,hg,hi]
   have hp:[d4,d5,d6,d7,d8,d9,d10]=pred.ds:=hp
   show _=[eI a,eI b,ng nk (A5 ki),ng nr (B6 rows)]++pred.ds++[ng nx (xL xs),ng ny (A5 keys),ng na (H4 aggs),ng ni (pL ins)]
   rw[<- hp];rfl
theorem C5E{ds:List D}(h:WT Tryz.prog A8S ds):∃p:Pl,ds=p.ds:=(E2N h).1 rfl
theorem C1s(p:Pl):A1L Tryz.prog A8S p.ds=p.av:=by unfold A1L;rw[Tryz.underlying32];rfl
theorem E2J{ds:List D}(h:WT Tryz.prog C11 ds):∃b:Bg,ds=[b.kd,b.rd]:=by
 obtain⟨hl,hf⟩:=h.st' Tryz.underlying43
 rw[D7w] at hl
 match ds,hl with
 |[d0,d1],_=>
  have h0:=hf _ (Y7 ..)
  have h1:=hf _ (I8 _ (Y7 ..))
  dsimp only at h0 h1
  rw[C1I] at h0
  rw[C1J] at h1
  obtain⟨nk,ki,h0⟩:=B3T h0
  obtain⟨nr,rows,h1⟩:=C5F h1
  simp at h0 h1
  exact⟨⟨nk,ki,nr,rows⟩,by rw[h0,h1]⟩
theorem C5C{ds:List D}(h:WT Tryz.prog C12 ds):∃d l,ds=[d]/\B0 d (V9 l):=by
 obtain⟨d,es,h1,h2,h4,h3⟩:=h.sl' Tryz.underlying33
 have:∃c,es=V9 c:=by
  clear h1 h2 h4
  induction es with
  |nil=>exact⟨[],rfl⟩
  |cons x es ih=>
   obtain⟨b,hn⟩:=E2J (h3 x (by simp))
   obtain⟨ks,hk⟩:=ih λy hy=>h3 y (by simp[hy])
   exact⟨b::ks,by rw[hn,hk];rfl⟩
 obtain⟨c,rfl⟩:=this
 exact⟨d,c,h1,h2⟩
theorem C1r(d:D):A1L Tryz.prog C12 [d]=.d d:=by unfold A1L;rw[Tryz.underlying33]
theorem C1t{d:D}{I:List Bg}(h:B0 d (V9 I)){B:Nat}(hb:J6 [d]<=B):I.length<=B/\∀b∈I,b.ki.length<=B/\b.rows.length<=B/\∀r∈b.rows,r.vs.length<=B/\∀v∈r.vs,v.s.length<=B:=by
 have h1:=E1W h
 have h2:(V9 I).length<=D5 (V9 I):=A4z λx hx=>by
  obtain⟨b,_,rfl⟩:=D9.1 hx
  simp only[J6]
  unfold Bg.kd ng
  split<;>simp[T6]<;>omega
 rw[A5v] at h2
 refine⟨by omega,λb hbm=>?_⟩
 have h3:J6 [ng b.nk (A5 b.ki),ng b.nr (B6 b.rows)]<=D5 (V9 I):=A3N (D9.2 ⟨b,hbm,rfl⟩)
 have h4:=A2n b.nk (A5 b.ki)
 have h5:=A2n b.nr (B6 b.rows)
 have h6:=B2g b.ki
 have h7:=C2v b.rows
 have h8:T6 (ng b.nk (A5 b.ki))+T6 (ng b.nr (B6 b.rows))<=J6 [ng b.nk (A5 b.ki),ng b.nr (B6 b.rows)]:=by simp only[J6];omega
 refine⟨by omega,by omega,λr hr=>?_⟩
 have b1:J6 [ng r.nl (B2 r.vs)]<=D5 (B6 b.rows):=A3N (D9.2 ⟨r,hr,rfl⟩)
 have b2:=A2n r.nl (B2 r.vs)
 have b3:D5 (B2 r.vs)<=B:=by simp only[J6] at b1;omega
 obtain⟨c1,c2⟩:=C2w r.vs
 exact⟨by omega,λv hv=>J2 (c2 v hv) b3⟩
end Go.Proofs
end
