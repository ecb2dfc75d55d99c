/- Texts of this claim, joined. No condition. -/
import Derived.Test.YtnhhopmldgpglaaGreatDoorQ4
set_option linter.unusedSimpArgs false
set_option linter.unusedVariables false
set_option maxRecDepth 10000
set_option maxHeartbeats 4000000
section
namespace Go.Proofs
open Go.Bi
inductive Ex.Lb(B:Nat):Ex->Prop
 |mk {op n:Int} {v:Vl} {nm:List UInt8} {nl:Bool} {args:List Ex} (h1:args.length<=B) (h2:v.s.length<=B) (h3:nm.length<=B) (h:∀a∈args,Ex.Lb B a):Ex.Lb B (.mk op n v nm nl args)
theorem Lb.bounds{B:Nat}{op n:Int}{v:Vl}{nm:List UInt8}{nl:Bool}{args:List Ex}(h:(Ex.mk op n v nm nl args).Lb B):args.length<=B/\v.s.length<=B/\nm.length<=B/\∀a∈args,a.Lb B:=by
 cases h with
 |mk h1 h2 h3 h=>exact⟨h1,h2,h3,h⟩
theorem B7i{B:Nat}:∀e:Ex,e.bk<=B->e.Lb B:=by
 refine Ex.ind λop n v nm nl args ih hb=>?_
 obtain⟨b1,b2,b3,b4⟩:=Ex.bk_bounds hb
 exact .mk b1 b2 b3 λa ha=>ih a ha (b4 a ha)
theorem C0G:∀a:Ex,a.Lb 2097152->∀b:Ex,b.Lb 2097152->Pure Tryz.prog A50 [a.av,b.av] (.d (.bool (x8 a b))):=by
 refine Ex.ind λop n v name nl args ih hbk b hbb=>?_
 obtain⟨op',n',v',name',nl',args'⟩:=b
 obtain⟨b1,b2,b3,b4⟩:=Lb.bounds hbk
 obtain⟨c1,c2,c3,c4⟩:=Lb.bounds hbb
 have ih':∀a∈args,∀b∈args',Pure Tryz.prog A50 [a.av,b.av] (.d (.bool (x8 a b))):=λa ha b hb=>ih a ha (b4 a ha) b (c4 b hb)
 clear ih
 rw[Ex.av_mk,Ex.av_mk,B8H]
 have hd:B8 (ng nl (xL args)) (xL args):=v7
 have hd':B8 (ng nl' (xL args')) (xL args'):=v7
 have hlen:=I8 args
 have hm:=P0 args
 have hlen':=I8 args'
 have hm':=P0 args'
 have hget:=A84 (args:=args)
 have hget':=A84 (args:=args')
 obtain⟨d,hde⟩:∃d,d=ng nl (xL args):=⟨_,rfl⟩
 obtain⟨d',hde'⟩:∃d,d=ng nl' (xL args'):=⟨_,rfl⟩
 rw[<- hde] at hd ⊢
 rw[<- hde'] at hd' ⊢
 obtain⟨es,hes⟩:∃es,es=xL args:=⟨_,rfl⟩
 rw[<- hes] at hlen hm hd hget
 obtain⟨es',hes'⟩:∃es,es=xL args':=⟨_,rfl⟩
 rw[<- hes'] at hlen' hm' hd' hget'
 refine C1J.go A6 rfl ?_
 have hv:decide (v=v')=(decide (v.k=v'.k)&&(decide (v.n=v'.n)&&decide (v.s=v'.s))):=by
  rw[z7]
  simp only[decide_eq_true_eq,K7,B0O]
 by_cases hall:op=op'/\n=n'/\v=v'/\name=name'/\args.length=args'.length
 rotate_left
 ·have hr:(decide (op=op')&&decide (n=n')&&decide (v=v')&&decide (name=name')&&smL args args')=false:=by
   rw[A4w]
   intro h
   simp only[K7,decide_eq_true_eq,A7Q] at h
   exact hall ⟨h.1.1.1.1,h.1.1.1.2,h.1.1.2,h.1.2,h.2.1⟩
  rw[hr]
  clear hr
  have hlle:((es.length:Int)=es'.length)↔args.length=args'.length:=by omega
  rw[B0O] at hall
  clear hget hget' ih'
  by_cases g1:op=op'
  rotate_left
  ·repeat' first|refine st ?_|(with_reducible first|apply A5|apply A4)<;>intro _
   all_goals rfl
  by_cases g2:n=n'
  rotate_left
  ·repeat' first|refine st ?_|(with_reducible first|apply A5|apply A4)<;>intro _
   all_goals rfl
  by_cases g3:v.k=v'.k/\v.n=v'.n/\v.s=v'.s
  rotate_left
  ·repeat' first|refine st ?_|(with_reducible first|apply A5|apply A4)<;>intro _
   all_goals first|rfl|(exfalso;simp_all)
  obtain⟨g3,g4,g5⟩:=g3
  by_cases g6:name=name'
  rotate_left
  ·repeat' first|refine st ?_|(with_reducible first|apply A5|apply A4)<;>intro _
   all_goals first|rfl|(exfalso;simp_all)
  have g7:¬(es.length:Int)=es'.length:=λh=>hall ⟨g1,g2,⟨g3,g4,g5⟩,g6,hlle.1 h⟩
  repeat' first|refine st ?_|(with_reducible first|apply A5|apply A4)<;>intro _
  all_goals first|rfl|(exfalso;simp_all;done)|(exfalso;omega)
 obtain⟨rfl,rfl,rfl,rfl,hll⟩:=hall
 obtain⟨q,hq⟩:∃q,q=(decide (op=op)&&decide (n=n)&&decide (v=v)&&decide (name=name)&&smL args args'):=⟨_,rfl⟩
 rw[<- hq]
 rw[A7Q,decide_eq_true hll] at hq
 simp only[decide_true,s0] at hq
 have hl2:(es.length:Int)=es'.length:=by omega
 have hl3:es.length=es'.length:=by omega
 have r1:v.s=v.s:=rfl
 have r2:name=name:=rfl
 repeat' first|refine st ?_|(with_reducible first|apply A5|apply A4)<;>intro _
 refine G6 A6 C4d C3n (λ(i:Nat)=>[.d (eI i)]) (λi=>[.cells [.d (eI op),.d (eI n),.d (eI v.k),.d (eI v.n),.d (.str v.s),.d (.str name),.d d],.cells [.d (eI op),.d (eI n),.d (eI v.k),.d (eI v.n),.d (.str v.s),.d (.str name),.d d']]) (λi=>i<=args.length/\((args.zip args').take i).all (λp=>x8 p.1 p.2)=true) (λi=>args.length-i) 0 rfl rfl rfl rfl (λ_ _=>⟨rfl,rfl⟩) rfl ⟨by omega,rfl⟩ ?_
 repeat' first|refine st ?_|(with_reducible first|apply A5|apply A4)<;>intro _
 intro i ⟨h4,h5⟩
 cases hx:args[i]? with
 |some x=>
  have hlt:=(B2.1 hx).1
  obtain⟨y,hy⟩:∃y,args'[i]?=some y:=⟨_,C5 (by omega)⟩
  have hz:(args.zip args')[i]?=some (x,y):=A6F.2 ⟨hx,hy⟩
  have hI:=ih' x (C3 hx) y (C3 hy)
  have hs:=C7g (p:=λp:Ex×Ex=>x8 p.1 p.2) hz
  have hn:=C7d (p:=λp:Ex×Ex=>x8 p.1 p.2) hz
  rw[h5,s0] at hs
  dsimp only at hs hn
  obtain⟨b,hb⟩:∃b,b=x8 x y:=⟨_,rfl⟩
  rw[<- hb] at hI hs hn
  obtain⟨o1,n1,v1,m1,l1,a1⟩:=x
  obtain⟨o2,n2,v2,m2,l2,a2⟩:=y
  rw[Ex.av_mk,Ex.av_mk] at hI
  have hg:=hget i _ _ _ _ _ _ hx
  have hg':es'[((i:Nat):Int).toNat]?=_:=hget' i _ _ _ _ _ _ hy
  have hlt':(i:Int)<es'.length:=by omega
  cases b with
  |true=>
   repeat' first|refine st ?_|((with_reducible first|apply A9|apply A8);(·exact hI))|(with_reducible first|apply A5|apply A4)<;>intro _
   exact⟨i+1,rfl,rfl,rfl,by omega,by omega,hs⟩
  |false=>
   rw[hn rfl] at hq
   rw[hq]
   repeat' first|refine st ?_|((with_reducible first|apply A9|apply A8);(·exact hI))|(with_reducible first|apply A5|apply A4)<;>intro _
   all_goals rfl
 |none=>
  have hge:=E4.1 hx
  rw[P2 (by rw[List.length_zip];omega)] at h5
  rw[h5] at hq
  rw[hq]
  repeat' first|refine st ?_|(with_reducible first|apply A5|apply A4)<;>intro _
  all_goals rfl
theorem C0r(g:FuncId)(φ:Ex->Ex)(hg:∀x:Ex,Pure Tryz.prog g [x.av] (φ x).av):∀e:Ex,e.bk<=1048576->Pure Tryz.prog A2S [e.av,.d (.fn g)] (O3 φ e).av:=by
 refine Ex.ind λop n v nm nl args ih hb=>?_
 obtain⟨b1,b2,b3,b4⟩:=Ex.bk_bounds hb
 obtain⟨Z,hZ⟩:∃Z,Z=(O3 φ (.mk op n v nm nl args)).av:=⟨_,rfl⟩
 rw[<- hZ]
 rw[A48] at hZ
 rw[Ex.av_mk]
 refine B1C.go A6 rfl ?_
 have h1:=I8 args
 have hm:=P0 args
 obtain⟨da,hda⟩:∃d,d=ng nl (xL args):=⟨_,rfl⟩
 have hsd:B8 da (xL args):=by rw[hda];exact v7
 rw[<- hda]
 have r0:v.k=v.k:=rfl
 have r1:v.s=v.s:=rfl
 have r2:nm=nm:=rfl
 repeat' first|refine st ?_|(with_reducible first|apply A5|apply A4)<;>intro _
 refine r8 5 7 rfl rfl ?_
 repeat' first|refine st ?_|(with_reducible first|apply A5|apply A4)<;>intro _
 refine P5 A6 B3S B3M (λ(i:Nat) (w:List (List D)×Bool)=>[.arr 2 w.1.length,.d (eI i)]) (λi w=>[.cells [.d (eI op),.d (eI n),.d (eI v.k),.d (eI v.n),.d (.str v.s),.d (.str nm),.d da],.cells [.d (eI 0),.d (eI 0),.d (eI 0),.d (eI 0),.d (.str []),.d (.str []),.d .nil],.arr w.1 7 0 w.2]) (λi w=>i<=args.length/\w.1=Mt (O3 φ) args i/\w.2=w.1.isEmpty) (λi _=>args.length-i) 0 ([],true) rfl rfl rfl rfl (λ_ _ _=>⟨rfl,rfl⟩) rfl ⟨by omega,rfl,rfl⟩ ?_
 repeat' first|refine st ?_|(with_reducible first|apply A5|apply A4)<;>intro _
 intro i w ⟨h4,h5,h6⟩
 obtain⟨A,b⟩:=w
 dsimp only at h5 h6 ⊢
 have hAl:A.length=i:=by rw[h5];exact A2P _ args i (by omega)
 have hAm:∀e∈A,e.length=7:=by rw[h5];exact A2Q _ _ _
 cases hx:args[i]? with
 |some x=>
  have hlt:=(B2.1 hx).1
  have hs:=A2R (φ:=O3 φ) hx
  have hg:=A1y hx
  have hi:=ih x (C3 hx) (b4 x (C3 hx))
  rw[<- h5] at hs
  obtain⟨z,hz⟩:∃z,z=O3 φ x:=⟨_,rfl⟩
  rw[<- hz] at hs hi
  obtain⟨o1,n1,v1,m1,l1,a1⟩:=x
  obtain⟨o2,n2,v2,m2,l2,a2⟩:=z
  rw[Ex.ds_mk] at hg hs
  simp only[Ex.av_mk] at hi
  repeat' first|refine st ?_|((with_reducible first|apply A9|apply A8);(·exact hi))|(with_reducible first|apply A5|apply A4)<;>intro _
  exact⟨i+1,(A++[m6 o2 n2 v2 m2 (ng l2 (xL a2))],false),rfl,rfl,rfl,by omega,by omega,hs,by simp⟩
 |none=>
  have hge:=E4.1 hx
  rw[A2O hge] at h5
  have hx':(Ex.mk op n v nm true (args.map (O3 φ))).av=eX op n v nm (if A.isEmpty then .nil else .sl A):=by rw[Ex.av_mk,B7K,<- h5]
  have hφ:=hg (.mk op n v nm true (args.map (O3 φ)))
  rw[<- h6] at hx'
  by_cases h2:op=2
  ·rw[if_pos h2] at hZ
   obtain⟨z,hz⟩:∃z,z=φ (.mk op n v nm true (args.map (O3 φ))):=⟨_,rfl⟩
   rw[<- hz] at hZ hφ
   rw[hx'] at hφ
   obtain⟨o2,n2,v2,m2,l2,a2⟩:=z
   simp only[Ex.av_mk] at hZ hφ
   rw[hZ]
   cases b with
   |true=>
    rw[if_pos rfl] at hφ
    repeat' first|refine st ?_|((with_reducible first|apply A9|apply A8);(·exact hφ))|(with_reducible first|apply A5|apply A4)<;>intro _
    all_goals rfl
   |false=>
    rw[if_neg (by simp)] at hφ
    repeat' first|refine st ?_|((with_reducible first|apply A9|apply A8);(·exact hφ))|(with_reducible first|apply A5|apply A4)<;>intro _
    all_goals rfl
  ·rw[if_neg h2,hx'] at hZ
   rw[hZ]
   cases b with
   |true=>
    repeat' first|refine st ?_|(with_reducible first|apply A5|apply A4)<;>intro _
    all_goals rfl
   |false=>
    repeat' first|refine st ?_|(with_reducible first|apply A5|apply A4)<;>intro _
    all_goals rfl
def F6(e:Ex):Ex:=O3 id e
def A7B:Ex:=.mk 0 0 K4 [] true []
def inC(l:List Ex)(n:Int)(v:Vl)(nm:List UInt8)(k:Nat):Bool:=decide (k=0/\nm=[]/\(v.k=0/\v.n=0/\v.s=[])/\0<=n/\n<l.length)
def A2z(l:List Ex):Ex->Ex
 |.mk op n v nm nl args=>if inC l n v nm args.length then F6 (l.getD n.toNat A7B) else .mk op n v nm nl args
theorem B9y(x:Ex):Pure Tryz.prog A6Q [x.av] (id x).av:=by
 obtain⟨op,n,v,nm,nl,args⟩:=x
 show Pure Tryz.prog _ _ (Ex.mk op n v nm nl args).av
 rw[Ex.av_mk]
 refine C2h.go A6 rfl ?_
 repeat' first|refine st ?_|(with_reducible first|apply A5|apply A4)<;>intro _
 all_goals rfl
theorem B9x(l:List Ex)(hl:l.length<=1048576)(hlb:∀a∈l,a.bk<=1048576)(dl:D)(hdl:B8 dl (xL l))(x:Ex):B4 Tryz.prog A6P [x.av,.ptr 0 0] [.cells [.d dl]] (λr os=>r=(A2z l x).av/\os=[.cells [.d dl]]):=by
 obtain⟨op,n,v,nm,nl,args⟩:=x
 obtain⟨Z,hZ⟩:∃Z,Z=(A2z l (.mk op n v nm nl args)).av:=⟨_,rfl⟩
 rw[<- hZ]
 rw[A2z] at hZ
 rw[Ex.av_mk]
 have h1:=I8 args
 have hm:=P0 args
 have h2:=I8 l
 have hm2:=P0 l
 obtain⟨da,hda⟩:∃d,d=ng nl (xL args):=⟨_,rfl⟩
 have hsd:B8 da (xL args):=by rw[hda];exact v7
 cases hc:inC l n v nm args.length with
 |true=>
  rw[hc,if_pos rfl] at hZ
  obtain⟨c1,c2,⟨c3,c4,c5⟩,c6,c7⟩:=of_decide_eq_true hc
  obtain⟨m,rfl⟩:∃m:Nat,n=m:=⟨n.toNat,by omega⟩
  have hlm:m<l.length:=by omega
  have hx:l[m]?=some l[m]:=C5 hlm
  have hgd:l.getD (m:Int).toNat A7B=l[m]:=by rw[K8,F7,hx];rfl
  rw[hgd] at hZ
  have hM:=C0r A6Q id B9y l[m] (hlb _ (A10 _))
  have hg:=A1y hx
  obtain⟨y,hy⟩:∃y,y=l[m]:=⟨_,rfl⟩
  rw[<- hy] at hM hg hZ
  unfold F6 at hZ
  obtain⟨z,hz⟩:∃z,z=O3 id y:=⟨_,rfl⟩
  rw[<- hz] at hM hZ
  obtain⟨o1,n1,v1,m1,l1,a1⟩:=y
  obtain⟨o2,n2,v2,m2,l2,a2⟩:=z
  rw[Ex.ds_mk] at hg
  rw[Ex.av_mk,Ex.av_mk] at hM
  rw[Ex.av_mk] at hZ
  rw[hZ,<- hda]
  clear hda
  subst c2
  refine B1B.goX A6 rfl ?_
  repeat' first|refine st ?_|((with_reducible first|apply A9|apply A8);(·exact hM))|(with_reducible first|apply A5|apply A4)<;>intro _
  all_goals exact⟨rfl,rfl⟩
 |false=>
  rw[hc,if_neg (by decide),Ex.av_mk,<- hda] at hZ
  rw[hZ,<- hda]
  have hno:¬(args.length=0/\nm=[]/\(v.k=0/\v.n=0/\v.s=[])/\0<=n/\n<l.length):=of_decide_eq_false hc
  clear hda hZ hc
  refine B1B.goX A6 rfl ?_
  by_cases g1:args.length=0
  rotate_left
  ·repeat' first|refine st ?_|(with_reducible first|apply A5|apply A4)<;>intro _
   all_goals exact⟨rfl,rfl⟩
  by_cases g2:nm=[]
  rotate_left
  ·repeat' first|refine st ?_|(with_reducible first|apply A5|apply A4)<;>intro _
   all_goals exact⟨rfl,rfl⟩
  subst g2
  by_cases g3:v.k=0/\v.n=0/\v.s=[]
  rotate_left
  ·repeat' first|refine st ?_|(with_reducible first|apply A5|apply A4)<;>intro _
   all_goals first|exact⟨rfl,rfl⟩|(exfalso;simp_all;done)
  obtain⟨g4,g5,g6⟩:=g3
  by_cases g7:0<=n
  ·by_cases g8:n<l.length
   ·exact absurd ⟨g1,rfl,⟨g4,g5,g6⟩,g7,g8⟩ hno
   ·repeat' first|refine st ?_|(with_reducible first|apply A5|apply A4)<;>intro _
    all_goals exact⟨rfl,rfl⟩
  ·repeat' first|refine st ?_|(with_reducible first|apply A5|apply A4)<;>intro _
   all_goals exact⟨rfl,rfl⟩
def E3(l:List Ex)(e:Ex):Ex:=O3 (A2z l) e
theorem A4D(l:List Ex)(hl:l.length<=1048576)(hlb:∀a∈l,a.bk<=1048576)(dl:D)(hdl:B8 dl (xL l))(e:Ex)(he:e.bk<=1048576):Pure Tryz.prog B4r [e.av,.d dl] (E3 l e).av:=by
 have hM:=B17 A6P dl (A2z l) (B9x l hl hlb dl hdl) e he
 have hL:∀os:List AO,os[1]?=some (.cells [.d dl])->B4 Tryz.prog A2S [e.av,.clo A6P [1]] os (λr' os'=>r'=(O3 (A2z l) e).av/\os'=os.set 1 (.cells [.d dl])):=λos ho=>B02 (id:=1) hM (λf=>A7v f _) ho
 unfold E3
 obtain⟨z,hz⟩:∃z,z=O3 (A2z l) e:=⟨_,rfl⟩
 rw[<- hz] at hL ⊢
 obtain⟨o1,n1,v1,m1,l1,a1⟩:=e
 obtain⟨o2,n2,v2,m2,l2,a2⟩:=z
 simp only[Ex.av_mk] at hL ⊢
 refine C2g.go A6 rfl ?_
 repeat' first|refine st ?_|((with_reducible first|apply I6|apply D5);(·exact hL _ rfl);(try rintro _ _ ⟨rfl,rfl⟩))|((with_reducible apply I7);(·exact hL _ rfl))|((with_reducible apply H6);refine st ?_;(with_reducible apply I5);(·exact rfl);refine st ?_;(with_reducible apply D5);(·exact hL _ rfl);(try rintro _ _ ⟨rfl,rfl⟩))|(with_reducible first|apply A5|apply A4)<;>intro _
 all_goals rfl
theorem A9O(n:Int)(v:Vl)(nm:List UInt8)(k:Nat):M4 2 n v nm k=decide (k=0/\nm=[]/\(v.k=0/\v.n=0/\v.s=[])):=by
 have hc:(S3 2 k).1=decide ((k:Int)=0):=rfl
 unfold M4
 rw[hc,if_neg (by decide),if_neg (by decide),if_pos rfl,A3i,z7]
 simp only[K7,decide_eq_true_eq]
 constructor
 ·rintro⟨⟨h1,h2⟩,h3⟩;exact⟨by omega,h2,h3⟩
 ·rintro⟨h1,h2,h3⟩;exact⟨⟨by omega,h2⟩,h3⟩
def B0(a b:Int):Int:=if b<a then a-1 else a
theorem W0(a b:Int)(ha:-4611686018427387904<=a)(hb:a<=4611686018427387904):Pure Tryz.prog B4k [.d (eI a),.d (eI b)] (.d (eI (B0 a b))):=by
 unfold B0
 by_cases h:b<a
 ·rw[if_pos h]
  refine B1z.go A6 rfl ?_
  repeat' first|refine st ?_|(with_reducible first|apply A5|apply A4)<;>intro _
  all_goals rfl
 ·rw[if_neg h]
  refine B1z.go A6 rfl ?_
  repeat' first|refine st ?_|(with_reducible first|apply A5|apply A4)<;>intro _
  all_goals rfl
def mvE(k i:Int):Ex:=.mk 2 (B0 k i) ⟨0,0,[]⟩ [] true []
def H5(m i:Nat):List Ex:=(List.range m).map λ(k:Nat)=>mvE (k:Int) (i:Int)
theorem A0Q(m i:Nat):(H5 m i).length=m:=by simp[H5]
theorem A5U(m i:Nat):xL (H5 m i)++[[.int .i64 2,eI (B0 m i),.int .i64 0,.int .i64 0,.str [],.str [],.nil]]=xL (H5 (m+1) i):=by
 unfold H5
 rw[List.range_succ,A11]
 simp only[xL,A11,R6,List.map_nil,List.append_cancel_left_eq]
 unfold mvE
 rw[Ex.ds_mk]
 rfl
def D3(ks:List Int)(f:Int->Int)(k:Nat):List Int:=(ks.take k).map f++ks.drop k
theorem o6(ks:List Int)(f:Int->Int)(k:Nat)(h:k<=ks.length):(D3 ks f k).length=ks.length:=by
 unfold D3
 simp
 omega
theorem o5{ks:List Int}(f:Int->Int){k:Nat}{c:Int}(h:ks[k]?=some c):(D3 ks f k)[k]?=some c:=by
 have hlt:=(B2.1 h).1
 unfold D3
 rw[P6 (by simp;omega),C7,P8,A3D (by omega),A2U,A0Y]
 exact h
theorem o7{ks:List Int}(f:Int->Int){k:Nat}{c:Int}(h:ks[k]?=some c):(D3 ks f k).set k (f c)=D3 ks f (k+1):=by
 obtain⟨hlt,he⟩:=B2.1 h
 unfold D3
 rw[List.set_append_right _ _ (by simp;omega),C7,P8,A3D (by omega),A2U,V2 hlt,he,List.set_cons_zero,S0,h]
 simp
theorem o8(ks:List Int)(f:Int->Int):D3 ks f 0=ks:=by simp[D3]
theorem o4(ks:List Int)(f:Int->Int):D3 ks f ks.length=ks.map f:=by simp[D3]
theorem n6(l:List Int)(k:Nat)(y:Int):(A0 l).set k [eI y]=A0 (l.set k y):=by
 unfold A0
 rw[X5]
def L2(xs:List Ex)(f:Ex->Ex)(k:Nat):List Ex:=(xs.take k).map f++xs.drop k
theorem A5Q(xs:List Ex)(f:Ex->Ex)(k:Nat)(h:k<=xs.length):(L2 xs f k).length=xs.length:=by
 unfold L2
 simp
 omega
theorem A5P{xs:List Ex}(f:Ex->Ex){k:Nat}{c:Ex}(h:xs[k]?=some c):(L2 xs f k)[k]?=some c:=by
 have hlt:=(B2.1 h).1
 unfold L2
 rw[P6 (by simp;omega),C7,P8,A3D (by omega),A2U,A0Y]
 exact h
theorem A5R{xs:List Ex}(f:Ex->Ex){k:Nat}{c:Ex}(h:xs[k]?=some c):(L2 xs f k).set k (f c)=L2 xs f (k+1):=by
 obtain⟨hlt,he⟩:=B2.1 h
 unfold L2
 rw[List.set_append_right _ _ (by simp;omega),C7,P8,A3D (by omega),A2U,V2 hlt,he,List.set_cons_zero,S0,h]
 simp
theorem A5S(xs:List Ex)(f:Ex->Ex):L2 xs f 0=xs:=by simp[L2]
theorem A5O(xs:List Ex)(f:Ex->Ex):L2 xs f xs.length=xs.map f:=by simp[L2]
theorem C06(nm:List UInt8)(es:List (List D))(hm:∀e∈es,e.length=3)(i:Nat)(hi:i<es.length)(hel:es.length<=1048576)(ks:List Int)(hkb:∀k∈ks,0<=k/\k<=1048576)(hkl:ks.length<=1048576)(kn:Bool)(hkn:kn=true->ks=[])(xs:List Ex)(hxl:xs.length<=1048576)(hxb:∀e∈xs,e.bk<=1048576)(xn:Bool)(hxn:xn=true->xs=[]) :
  B4 Tryz.prog A0r [.ptr 0 0,.d (eI i)] [.cells [.d (.str nm),.arr 1 es.length,.arr 2 (A0 ks).length,.rs 3 0,.arr 4 (xL xs).length],.arr es 3 0 false,.arr (A0 ks) 1 0 kn,.rarr [] 2 true,.arr (xL xs) 7 0 xn]
   (λr os=>r=.tup []/\os=[.cells [.d (.str nm),.d (.sl (es.eraseIdx i)),.arr 2 (A0 ks).length,.rs 3 0,.arr 4 (xL xs).length],.arr (es.eraseIdx i++[L7]) 3 (es.length-1) false,.arr (A0 (ks.map λc=>B0 c i)) 1 0 kn,.rarr [] 2 true,.arr (xL (xs.map (E3 (H5 es.length i)))) 7 0 xn]):=by
 have hD:=fun {os:List AO} (ho:os[1]?=some (.arr es 3 0 false))=>A4F es hm i hi ho
 obtain⟨m,hmm⟩:∃m,m=es.length:=⟨_,rfl⟩
 refine A4J.goX A6 rfl ?_
 repeat' first|refine st ?_|(with_reducible first|apply A5|apply A4)<;>intro _
 refine r8 4 7 rfl rfl ?_
 repeat' first|refine st ?_|(with_reducible first|apply A5|apply A4)<;>intro _
 refine P5 A6 A4U A4P (λ(k:Nat) (A:List (List D))=>[.arr 5 A.length,.d (eI k)]) (λk A=>[.cells [.d (.str nm),.arr 1 es.length,.arr 2 (A0 ks).length,.rs 3 0,.arr 4 (xL xs).length],.arr es 3 0 false,.arr (A0 ks) 1 0 kn,.rarr [] 2 true,.arr (xL xs) 7 0 xn,.arr A 7 0 A.isEmpty]) (λk A=>k<=es.length/\A=xL (H5 k i)) (λk A=>es.length-k) 0 [] rfl rfl rfl rfl (λ_ _ _=>⟨rfl,rfl⟩) rfl ⟨by omega,by simp[H5,xL]⟩ ?_
 repeat' first|refine st ?_|(with_reducible first|apply A5|apply A4)<;>intro _
 intro k A ⟨h4,h5⟩
 have hAl:A.length=k:=by rw[h5,I8,A0Q]
 have hAm:∀e∈A,e.length=7:=by rw[h5];exact P0 _
 by_cases hlt:k<es.length
 ·have hB:=W0 k i (by omega) (by omega)
  have hs:=A5U k i
  rw[<- h5] at hs
  obtain⟨b,hb⟩:∃b,b=B0 k i:=⟨_,rfl⟩
  rw[<- hb] at hB hs
  clear h5
  repeat' first|refine st ?_|((with_reducible first|apply A9|apply A8);(·exact hB))|(with_reducible first|apply A5|apply A4)<;>intro _
  refine⟨k+1,A++[[.int .i64 2,eI b,.int .i64 0,.int .i64 0,.str [],.str [],.nil]],?_,rfl,?_,by omega,by omega,hs⟩
  ·rfl
  ·rw[show(A++[[.int .i64 2,eI b,.int .i64 0,.int .i64 0,.str [],.str [],.nil]]).isEmpty=false by simp]
   first|rfl|skip
 ·have hke:k=es.length:=by omega
  rw[hke] at h5
  have hDc:=hD (os:=[.cells [.d (.str nm),.arr 1 es.length,.arr 2 (A0 ks).length,.rs 3 0,.arr 4 (xL xs).length],.arr es 3 0 false,.arr (A0 ks) 1 0 kn,.rarr [] 2 true,.arr (xL xs) 7 0 xn,.arr A 7 0 A.isEmpty]) rfl
  obtain⟨es',hes'⟩:∃e,e=es.eraseIdx i:=⟨_,rfl⟩
  rw[<- hes'] at hDc ⊢
  obtain⟨M0,hM0⟩:∃L,L=H5 es.length i:=⟨_,rfl⟩
  have hMl:M0.length<=1048576:=by rw[hM0,A0Q];exact hel
  rw[<- hM0] at h5 ⊢
  repeat' first|(with_reducible apply H6)|refine st ?_|((with_reducible first|apply I6|apply D5);(·exact hDc);(try rintro _ _ ⟨rfl,rfl⟩))|((with_reducible apply I7);(·exact hDc))|((with_reducible apply H6);refine st ?_;(with_reducible apply I5);(·exact rfl);refine st ?_;(with_reducible apply D5);(·exact hDc);(try rintro _ _ ⟨rfl,rfl⟩))|(with_reducible first|apply A5|apply A4)<;>intro _
  refine G6 A6 A4V A4Q (λ(j:Nat)=>[.d (eI j)]) (λj=>[.cells [.d (.str nm),.d (.sl es'),.arr 2 (A0 ks).length,.rs 3 0,.arr 4 (xL xs).length],.arr (es'++[L7]) 3 (es.length-1) false,.arr (A0 (D3 ks (λc=>B0 c i) j)) 1 0 kn,.rarr [] 2 true,.arr (xL xs) 7 0 xn,.arr A 7 0 A.isEmpty]) (λj=>j<=ks.length) (λj=>ks.length-j) 0 rfl rfl rfl (by rw[o8];rfl) (λ_ _=>⟨rfl,rfl⟩) rfl (by omega) ?_
  repeat' first|refine st ?_|(with_reducible first|apply A5|apply A4)<;>intro _
  intro j h6
  have hKl:=o6 ks (λc=>B0 c i) j h6
  cases hy:ks[j]? with
  |some c=>
   obtain⟨hlt2,he2⟩:=B2.1 hy
   have hkf:kn=false:=by
    cases kn with
    |false=>rfl
    |true=>rw[hkn rfl] at hlt2;simp at hlt2
   subst hkf
   have hg:=O2 (o5 (λc=>B0 c i) hy)
   have hset:=o7 (λc=>B0 c i) hy
   obtain⟨cb1,cb2⟩:=hkb c (C3 hy)
   have hB:=W0 c i (by omega) (by omega)
   have hks:=B6 ks
   obtain⟨y,hyy⟩:∃y,y=B0 c i:=⟨_,rfl⟩
   rw[<- hyy] at hB hset
   have hset2:(A0 (D3 ks (λc=>B0 c i) j)).set j [eI y]=A0 (D3 ks (λc=>B0 c i) (j+1)):=by rw[n6,hset]
   have hml:=B6 (D3 ks (λc=>B0 c i) j)
   have hmm2:=D4 (D3 ks (λc=>B0 c i) j)
   obtain⟨X,hX⟩:∃X,X=A0 (D3 ks (λc=>B0 c i) j):=⟨_,rfl⟩
   rw[<- hX] at hg hset2 hml hmm2 ⊢
   repeat' first|refine st ?_|((with_reducible first|apply A9|apply A8);(·exact hB))|(with_reducible first|apply A5|apply A4)<;>intro _
   refine⟨j+1,rfl,rfl,?_,by omega,by omega⟩
   rw[show((j:Int)).toNat=j from K8 j,hset2]
  |none=>
   have hge:=E4.1 hy
   have hjk:j=ks.length:=by omega
   subst hjk
   rw[o4]
   have hks:=B6 ks
   obtain⟨K',hK'⟩:∃K,K=A0 (ks.map λc=>B0 c i):=⟨_,rfl⟩
   rw[<- hK']
   repeat' first|refine st ?_|(with_reducible first|apply A5|apply A4)<;>intro _
   refine A1A 1 ?_
   refine Q3 A6 ?_
   repeat' first|refine st ?_|(with_reducible first|apply A5|apply A4)<;>intro _
   have hAe:A.isEmpty=false:=by cases A with
    |nil=>simp at hAl;omega
    |cons a l=>rfl
   rw[hAe]
   have hXl:=I8 xs
   refine A6m 4 (id:=5) (len:=A.length) (sz:=7) (frz:=0) (nl:=false) (es:=A) rfl rfl rfl ?_
   rw[if_neg (by decide:¬(false=true))]
   repeat' first|refine st ?_|(with_reducible first|apply A5|apply A4)<;>intro _
   refine G6 A6 A4W A4R (λ(q:Nat)=>[.d (eI q)]) (λq=>[.cells [.d (.str nm),.d (.sl es'),.arr 2 (A0 ks).length,.rs 3 0,.arr 4 (xL xs).length],.arr (es'++[L7]) 3 (es.length-1) false,.arr K' 1 0 kn,.rarr [] 2 true,.arr (xL (L2 xs (E3 M0) q)) 7 0 xn,.arr A 7 A.length false]) (λq=>q<=xs.length) (λq=>xs.length-q) 0 rfl rfl rfl (by rw[A5S];rfl) (λ_ _=>⟨rfl,rfl⟩) rfl (by omega) ?_
   repeat' first|refine st ?_|(with_reducible first|apply A5|apply A4)<;>intro _
   intro q h7
   have hMb:∀a∈M0,a.bk<=1048576:=by
    intro a ha
    rw[hM0] at ha
    obtain⟨b,_,rfl⟩:=E6.1 ha
    unfold mvE Ex.bk
    rw[Ex.ds_mk]
    exact P9 rfl
   have hXql:=A5Q xs (E3 M0) q h7
   cases hx:xs[q]? with
   |some x=>
    obtain⟨hlt3,he3⟩:=B2.1 hx
    have hxf:xn=false:=by
     cases xn with
     |false=>rfl
     |true=>rw[hxn rfl] at hlt3;simp at hlt3
    subst hxf
    have hg:=A5P (E3 M0) hx
    have hset:=A5R (E3 M0) hx
    have hS:=A4D M0 hMl hMb (.sl A) (by rw[h5];exact O7) x (hxb x (C3 hx))
    have hq1:=I8 (L2 xs (E3 M0) q)
    have hq2:=P0 (L2 xs (E3 M0) q)
    obtain⟨z,hz⟩:∃z,z=E3 M0 x:=⟨_,rfl⟩
    rw[<- hz] at hS hset
    have hset2:(xL (L2 xs (E3 M0) q)).set q z.ds=xL (L2 xs (E3 M0) (q+1)):=by rw[<- hset];unfold xL;rw[X5]
    obtain⟨o1,n1,v1,m1,l1,a1⟩:=x
    obtain⟨o2,n2,v2,m2,l2,a2⟩:=z
    have hg:=y9 _ _ _ _ _ _ _ hg
    rw[Ex.av_mk,Ex.av_mk] at hS
    rw[Ex.ds_mk] at hset2
    obtain⟨X,hX⟩:∃X,X=xL (L2 xs (E3 M0) q):=⟨_,rfl⟩
    rw[<- hX] at hg hset2 hq1 hq2 ⊢
    repeat' first|refine st ?_|((with_reducible first|apply A9|apply A8);(·exact hS))|(with_reducible first|apply A5|apply A4)<;>intro _
    refine⟨q+1,rfl,rfl,?_,by omega,by omega⟩
    rw[show((q:Int)).toNat=q from K8 q,hset2]
   |none=>
    have hge:=E4.1 hx
    have hqk:q=xs.length:=by omega
    subst hqk
    rw[A5O]
    repeat' first|refine st ?_|(with_reducible first|apply A5|apply A4)<;>intro _
    exact⟨rfl,rfl⟩
theorem A4x(nm:List UInt8)(dc dk df dx:D)(Cs Ks:List (List D))(cn kn:Bool)(hC:B4 Tryz.prog A2T [.d dc] [] (λr os=>r=.arr 0 Cs.length/\os=[.arr Cs 3 0 cn]))(hK:B4 Tryz.prog W3 [.d dk] [] (λr os=>r=.arr 0 Ks.length/\os=[.arr Ks 1 0 kn]))
  (hd:B8 df []) (l:List Ex) (hb:∀x∈l,x.bk<=1048576) (hl:l.length<=1048576) (hdx:B8 dx (xL l)) :
  B4 Tryz.prog A0s [eT nm dc dk df dx] [] (λr os=>r=.agg (oB nm Cs.length Ks.length 0 (xL (l.map (C0 0))).length)/\os=Z7 [.d (.str nm),.d dc,.d dk,.d df,.d dx] (oB nm Cs.length Ks.length 0 (xL (l.map (C0 0))).length) nm Cs Ks cn kn [] (xL (l.map (C0 0))) (xL (l.map (C0 0))).isEmpty):=by
 have h1:=I8 l
 have hm:=P0 l
 have hg0:=y9 (args:=l)
 obtain⟨R,hR⟩:∃R,R=xL (l.map (C0 0)):=⟨_,rfl⟩
 rw[<- hR]
 obtain⟨es,hes⟩:∃es,es=xL l:=⟨_,rfl⟩
 rw[<- hes] at h1 hm hdx hg0
 refine A4K.goO A6 rfl ?_
 repeat' first|refine st ?_|((with_reducible apply V7);(·first|exact hC|exact hK))|(with_reducible first|apply A5|apply A4)<;>intro _
 refine A6o 4 3 2 rfl rfl rfl ?_
 refine A6n 4 4 7 rfl rfl rfl ?_
 refine A1A 1 ?_
 refine Q3 A6 ?_
 repeat' first|refine st ?_|((with_reducible apply V7);(·first|exact hC|exact hK))|(with_reducible first|apply A5|apply A4)<;>intro _
 refine A6p [2,3,37,38,39] [.ptr 1 0,.ptr 4 0,.d dx,.d (.int .i64 es.length),.d (eI 0)] [0,1,2,3,4,5,6] (Z7 [.d (.str nm),.d dc,.d dk,.d df,.d dx] [.d (.str []),.d .nil,.d .nil,.d .nil,.d .nil] nm Cs Ks cn kn [] [] true) rfl rfl (by decide) rfl rfl rfl rfl rfl ?_
 refine P5 A6 A4X A4S (λ(i:Nat) (w:List (List D)×Bool)=>[.d (eI i)]) (λi w=>Z7 [.d (.str nm),.d dc,.d dk,.d df,.d dx] [.d (.str []),.d .nil,.d .nil,.d .nil,.d .nil] nm Cs Ks cn kn [] w.1 w.2) (λi w=>i<=l.length/\w.1=Mt (C0 0) l i/\w.2=w.1.isEmpty) (λi w=>l.length-i) 0 ([],true) rfl rfl rfl rfl (λ_ _ _=>⟨rfl,rfl⟩) rfl ⟨by omega,rfl,rfl⟩ ?_
 repeat' first|refine st ?_|(with_reducible first|apply A5|apply A4)<;>intro _
 intro i w ⟨h4,h5,h6⟩
 obtain⟨A,b⟩:=w
 dsimp only at h5 h6 ⊢
 have hAl:A.length=i:=by rw[h5];exact A2P _ l i (by omega)
 have hAm:∀e∈A,e.length=7:=by rw[h5];exact A2Q _ _ _
 cases hx:l[i]? with
 |some x=>
  have hlt:=(B2.1 hx).1
  have hs:=A2R (φ:=C0 0) hx
  have hS:=A4C x (hb x (C3 hx)) 0
  rw[<- h5] at hs
  obtain⟨z,hz⟩:∃z,z=C0 0 x:=⟨_,rfl⟩
  rw[<- hz] at hs hS
  obtain⟨o1,n1,v1,m1,l1,a1⟩:=x
  obtain⟨o2,n2,v2,m2,l2,a2⟩:=z
  have hg:=hg0 _ _ _ _ _ _ _ hx
  rw[Ex.ds_mk] at hs
  rw[Ex.av_mk,Ex.av_mk] at hS
  repeat' first|refine st ?_|((with_reducible first|apply A9|apply A8);(·exact hS))|(with_reducible first|apply A5|apply A4)<;>intro _
  exact⟨i+1,(A++[m6 o2 n2 v2 m2 (ng l2 (xL a2))],false),rfl,rfl,rfl,by omega,by omega,hs,by simp⟩
 |none=>
  have hge:=E4.1 hx
  rw[A2O hge,<- hR] at h5
  subst h5
  subst h6
  repeat' first|refine st ?_|(with_reducible first|apply A5|apply A4)<;>intro _
  all_goals exact⟨rfl,rfl⟩
theorem A4y(nm:List UInt8)(dc dk df dx:D)(Cs Ks:List (List D))(cn kn:Bool)(hC:B4 Tryz.prog A2T [.d dc] [] (λr os=>r=.arr 0 Cs.length/\os=[.arr Cs 3 0 cn]))(hK:B4 Tryz.prog W3 [.d dk] [] (λr os=>r=.arr 0 Ks.length/\os=[.arr Ks 1 0 kn]))
  (f0:Fi) (hf0:f0.ok) (hd:df=.sl (R4 [f0])) (l:List Ex) (hb:∀x∈l,x.bk<=1048576) (hl:l.length<=1048576) (hdx:B8 dx (xL l)) :
  B4 Tryz.prog A0s [eT nm dc dk df dx] [] (λr os=>r=.agg (oB nm Cs.length Ks.length 1 (xL (l.map (C0 0))).length)/\os=Z7 [.d (.str nm),.d dc,.d dk,.d df,.d dx] (oB nm Cs.length Ks.length 1 (xL (l.map (C0 0))).length) nm Cs Ks cn kn [f0] (xL (l.map (C0 0))) (xL (l.map (C0 0))).isEmpty):=by
 have h1:=I8 l
 have hm:=P0 l
 have hg0:=y9 (args:=l)
 obtain⟨R,hR⟩:∃R,R=xL (l.map (C0 0)):=⟨_,rfl⟩
 rw[<- hR]
 obtain⟨es,hes⟩:∃es,es=xL l:=⟨_,rfl⟩
 rw[<- hes] at h1 hm hdx hg0
 subst hd
 obtain⟨fd0,fe0,fn0,ft0⟩:=f0
 have hf0:B4 Tryz.prog W3 [.d fd0] [] (λr os=>r=.arr 0 fe0.length/\os=[.arr fe0 1 0 fn0]):=hf0
 rw[show R4 [⟨fd0,fe0,fn0,ft0⟩]=[[fd0,.str ft0]] from rfl]
 refine A4K.goO A6 rfl ?_
 repeat' first|refine st ?_|((with_reducible apply V7);(·first|exact hC|exact hK|exact hf0))|(with_reducible first|apply A5|apply A4)<;>intro _
 refine A6o 4 3 2 rfl rfl rfl ?_
 refine A6n 4 4 7 rfl rfl rfl ?_
 refine A1A 2 ?_
 refine Q3 A6 ?_
 repeat' first|refine st ?_|((with_reducible apply V7);(·first|exact hC|exact hK|exact hf0))|(with_reducible first|apply A5|apply A4)<;>intro _
 refine Q3 A6 ?_
 repeat' first|refine st ?_|((with_reducible apply V7);(·first|exact hC|exact hK|exact hf0))|(with_reducible first|apply A5|apply A4)<;>intro _
 refine A6p [2,3,37,38,39] [.ptr 1 0,.ptr 4 0,.d dx,.d (.int .i64 es.length),.d (eI 0)] [0,1,2,3,4,5,6,8] (Z7 [.d (.str nm),.d dc,.d dk,.d (.sl [[fd0,.str ft0]]),.d dx] [.d (.str []),.d .nil,.d .nil,.d .nil,.d .nil] nm Cs Ks cn kn [⟨fd0,fe0,fn0,ft0⟩] [] true) rfl rfl (by decide) rfl rfl rfl rfl rfl ?_
 refine P5 A6 A4X A4S (λ(i:Nat) (w:List (List D)×Bool)=>[.d (eI i)]) (λi w=>Z7 [.d (.str nm),.d dc,.d dk,.d (.sl [[fd0,.str ft0]]),.d dx] [.d (.str []),.d .nil,.d .nil,.d .nil,.d .nil] nm Cs Ks cn kn [⟨fd0,fe0,fn0,ft0⟩] w.1 w.2) (λi w=>i<=l.length/\w.1=Mt (C0 0) l i/\w.2=w.1.isEmpty) (λi w=>l.length-i) 0 ([],true) rfl rfl rfl rfl (λ_ _ _=>⟨rfl,rfl⟩) rfl ⟨by omega,rfl,rfl⟩ ?_
 repeat' first|refine st ?_|(with_reducible first|apply A5|apply A4)<;>intro _
 intro i w ⟨h4,h5,h6⟩
 obtain⟨A,b⟩:=w
 dsimp only at h5 h6 ⊢
 have hAl:A.length=i:=by rw[h5];exact A2P _ l i (by omega)
 have hAm:∀e∈A,e.length=7:=by rw[h5];exact A2Q _ _ _
 cases hx:l[i]? with
 |some x=>
  have hlt:=(B2.1 hx).1
  have hs:=A2R (φ:=C0 0) hx
  have hS:=A4C x (hb x (C3 hx)) 0
  rw[<- h5] at hs
  obtain⟨z,hz⟩:∃z,z=C0 0 x:=⟨_,rfl⟩
  rw[<- hz] at hs hS
  obtain⟨o1,n1,v1,m1,l1,a1⟩:=x
  obtain⟨o2,n2,v2,m2,l2,a2⟩:=z
  have hg:=hg0 _ _ _ _ _ _ _ hx
  rw[Ex.ds_mk] at hs
  rw[Ex.av_mk,Ex.av_mk] at hS
  repeat' first|refine st ?_|((with_reducible first|apply A9|apply A8);(·exact hS))|(with_reducible first|apply A5|apply A4)<;>intro _
  exact⟨i+1,(A++[m6 o2 n2 v2 m2 (ng l2 (xL a2))],false),rfl,rfl,rfl,by omega,by omega,hs,by simp⟩
 |none=>
  have hge:=E4.1 hx
  rw[A2O hge,<- hR] at h5
  subst h5
  subst h6
  repeat' first|refine st ?_|(with_reducible first|apply A5|apply A4)<;>intro _
  all_goals exact⟨rfl,rfl⟩
theorem A4z(nm:List UInt8)(dc dk df dx:D)(Cs Ks:List (List D))(cn kn:Bool)(hC:B4 Tryz.prog A2T [.d dc] [] (λr os=>r=.arr 0 Cs.length/\os=[.arr Cs 3 0 cn]))(hK:B4 Tryz.prog W3 [.d dk] [] (λr os=>r=.arr 0 Ks.length/\os=[.arr Ks 1 0 kn]))
  (f0 f1:Fi) (hf0:f0.ok) (hf1:f1.ok) (hd:df=.sl (R4 [f0,f1])) (l:List Ex) (hb:∀x∈l,x.bk<=1048576) (hl:l.length<=1048576) (hdx:B8 dx (xL l)) :
  B4 Tryz.prog A0s [eT nm dc dk df dx] [] (λr os=>r=.agg (oB nm Cs.length Ks.length 2 (xL (l.map (C0 0))).length)/\os=Z7 [.d (.str nm),.d dc,.d dk,.d df,.d dx] (oB nm Cs.length Ks.length 2 (xL (l.map (C0 0))).length) nm Cs Ks cn kn [f0,f1] (xL (l.map (C0 0))) (xL (l.map (C0 0))).isEmpty):=by
 have h1:=I8 l
 have hm:=P0 l
 have hg0:=y9 (args:=l)
 obtain⟨R,hR⟩:∃R,R=xL (l.map (C0 0)):=⟨_,rfl⟩
 rw[<- hR]
 obtain⟨es,hes⟩:∃es,es=xL l:=⟨_,rfl⟩
 rw[<- hes] at h1 hm hdx hg0
 subst hd
 obtain⟨fd0,fe0,fn0,ft0⟩:=f0
 have hf0:B4 Tryz.prog W3 [.d fd0] [] (λr os=>r=.arr 0 fe0.length/\os=[.arr fe0 1 0 fn0]):=hf0
 obtain⟨fd1,fe1,fn1,ft1⟩:=f1
 have hf1:B4 Tryz.prog W3 [.d fd1] [] (λr os=>r=.arr 0 fe1.length/\os=[.arr fe1 1 0 fn1]):=hf1
 rw[show R4 [⟨fd0,fe0,fn0,ft0⟩,⟨fd1,fe1,fn1,ft1⟩]=[[fd0,.str ft0],[fd1,.str ft1]] from rfl]
 refine A4K.goO A6 rfl ?_
 repeat' first|refine st ?_|((with_reducible apply V7);(·first|exact hC|exact hK|exact hf0|exact hf1))|(with_reducible first|apply A5|apply A4)<;>intro _
 refine A6o 4 3 2 rfl rfl rfl ?_
 refine A6n 4 4 7 rfl rfl rfl ?_
 refine A1A 3 ?_
 refine Q3 A6 ?_
 repeat' first|refine st ?_|((with_reducible apply V7);(·first|exact hC|exact hK|exact hf0|exact hf1))|(with_reducible first|apply A5|apply A4)<;>intro _
 refine Q3 A6 ?_
 repeat' first|refine st ?_|((with_reducible apply V7);(·first|exact hC|exact hK|exact hf0|exact hf1))|(with_reducible first|apply A5|apply A4)<;>intro _
 refine Q3 A6 ?_
 repeat' first|refine st ?_|((with_reducible apply V7);(·first|exact hC|exact hK|exact hf0|exact hf1))|(with_reducible first|apply A5|apply A4)<;>intro _
 refine A6p [2,3,37,38,39] [.ptr 1 0,.ptr 4 0,.d dx,.d (.int .i64 es.length),.d (eI 0)] [0,1,2,3,4,5,6,8,11] (Z7 [.d (.str nm),.d dc,.d dk,.d (.sl [[fd0,.str ft0],[fd1,.str ft1]]),.d dx] [.d (.str []),.d .nil,.d .nil,.d .nil,.d .nil] nm Cs Ks cn kn [⟨fd0,fe0,fn0,ft0⟩,⟨fd1,fe1,fn1,ft1⟩] [] true) rfl rfl (by decide) rfl rfl rfl rfl rfl ?_
 refine P5 A6 A4X A4S (λ(i:Nat) (w:List (List D)×Bool)=>[.d (eI i)]) (λi w=>Z7 [.d (.str nm),.d dc,.d dk,.d (.sl [[fd0,.str ft0],[fd1,.str ft1]]),.d dx] [.d (.str []),.d .nil,.d .nil,.d .nil,.d .nil] nm Cs Ks cn kn [⟨fd0,fe0,fn0,ft0⟩,⟨fd1,fe1,fn1,ft1⟩] w.1 w.2) (λi w=>i<=l.length/\w.1=Mt (C0 0) l i/\w.2=w.1.isEmpty) (λi w=>l.length-i) 0 ([],true) rfl rfl rfl rfl (λ_ _ _=>⟨rfl,rfl⟩) rfl ⟨by omega,rfl,rfl⟩ ?_
 repeat' first|refine st ?_|(with_reducible first|apply A5|apply A4)<;>intro _
 intro i w ⟨h4,h5,h6⟩
 obtain⟨A,b⟩:=w
 dsimp only at h5 h6 ⊢
 have hAl:A.length=i:=by rw[h5];exact A2P _ l i (by omega)
 have hAm:∀e∈A,e.length=7:=by rw[h5];exact A2Q _ _ _
 cases hx:l[i]? with
 |some x=>
  have hlt:=(B2.1 hx).1
  have hs:=A2R (φ:=C0 0) hx
  have hS:=A4C x (hb x (C3 hx)) 0
  rw[<- h5] at hs
  obtain⟨z,hz⟩:∃z,z=C0 0 x:=⟨_,rfl⟩
  rw[<- hz] at hs hS
  obtain⟨o1,n1,v1,m1,l1,a1⟩:=x
  obtain⟨o2,n2,v2,m2,l2,a2⟩:=z
  have hg:=hg0 _ _ _ _ _ _ _ hx
  rw[Ex.ds_mk] at hs
  rw[Ex.av_mk,Ex.av_mk] at hS
  repeat' first|refine st ?_|((with_reducible first|apply A9|apply A8);(·exact hS))|(with_reducible first|apply A5|apply A4)<;>intro _
  exact⟨i+1,(A++[m6 o2 n2 v2 m2 (ng l2 (xL a2))],false),rfl,rfl,rfl,by omega,by omega,hs,by simp⟩
 |none=>
  have hge:=E4.1 hx
  rw[A2O hge,<- hR] at h5
  subst h5
  subst h6
  repeat' first|refine st ?_|(with_reducible first|apply A5|apply A4)<;>intro _
  all_goals exact⟨rfl,rfl⟩
end Go.Proofs
end
section
namespace Go.Bi
open Go
section
variable {P:Program}{n nb:Nat}{M:C4}{G:Gh}{os:List AO}{w:World}{ρ:C6}{a:Act}
def A66(Q:AV->List AO->Prop)(rs:List RV)(ρ:C6)(os:List AO):Prop:=e9 ρ os rs λl=>match l with
 |[x,y]=>x.one=true/\y.one=true/\Q (.tup [x,y]) os
 |_=>False
def A64(Q:AV->List AO->Prop)(rs:List RV)(L:Sl)(os:List AO):Prop:=A3p L os rs λl=>match l with
 |[x,y]=>F1 (x.one=true) (F1 (y.one=true) (Q (.tup [x,y]) os))
 |_=>False
theorem B0o{ρ:C6}{os:List AO}{K K':List AV->Prop}(hk:∀l,K l->K' l):∀{rs:List RV},e9 ρ os rs K->e9 ρ os rs K'
 |[],h=>hk _ h
 |.t s::rs,h=>B0o (rs:=rs) (λl hl=>hk _ hl) h
 |.cell s m g::rs,h=>by
  simp only[e9] at h ⊢
  obtain⟨r,h1,h2⟩:=A7u h
  exact h2 _ (B0o (rs:=rs) (λl hl=>hk _ hl) h1)
theorem B8j{Q:AV->List AO->Prop}{rs:List RV}{L:Sl}{os:List AO}(h:A64 Q rs L os):A66 Q rs (D2 L) os:=by
 have h1:=A4t h
 refine B0o (λl hl=>?_) h1
 match l,hl with
 |[x,y],hl=>exact⟨hl.1,hl.2.1,hl.2.2⟩
theorem D1c{c:s4}(hR:W4 n nb c M G os w ρ a){fn:Func}{rs:List RV}(hrs:fn.results.toList.mapM (cRV P)=some rs){Q:AV->List AO->Prop}(h:A66 Q rs ρ os) :
  ∃v,(results fn a.tmps).run P w=.ok v w/\∃M' G' r os',C1 M' G' os' w/\D9 c.M c.G c.os c.w M' G' os' w/\VA M' G' os' r v/\Q r os':=by
 obtain⟨l,vs,h1,h2,h3,h4⟩:=A7K hR.env hR.tmps _ rs hrs _ h
 match l,h1,h3,h4 with
 |[x,y],h1,h3,h4=>
  simp only[L0,m7] at h3
  refine⟨_,B0w h2,M,G,.tup [x,y],os,hR.env,hR.since,?_,h1.2.2⟩
  rw[dif_neg (by omega)]
  refine⟨vs.toArray,rfl,by simpa using h3,λj c u hc hu=>?_⟩
  have hu:vs[j]?=some u:=by simpa using hu
  match j,hc with
  |0,hc=>cases hc;exact B0g (h4 0 _ u rfl hu) h1.1
  |1,hc=>cases hc;exact B0g (h4 1 _ u rfl hu) h1.2.1
  |j+2,hc=>simp at hc
theorem C9l(hm:P.follows .mixedOrders=true){f:FuncId}{fn:Func}{code:Code}{ic:IC}{rs:List RV}(hf:P.funcs[f]?=some fn)(hname:fn.name≠ "runtime.NumGoroutine")(hb:fn.body=some code)(hc:cC P fn.ntmps code=some ic)
  (hrs:fn.results.toList.mapM (cRV P)=some rs) {args:List AV} {bs:List AO} (hargs:args.length<=fn.ntmps) {Q:AV->List AO->Prop}
  (h:V9 P fn.ntmps bs.length ic {norm:=A66 Q rs,exit:=λ_ _ _=>False,ret:=A66 Q rs} (A16 args) bs):B4 P f args bs Q:=by
 refine⟨⟨fn,hf,by rw[hb];rfl,hname⟩,λM G w vs he hl hv=>?_⟩
 refine calls_of_wp hf hb (wp_mono (A6l hm code ic hc _ _ _ h ⟨M,G,bs,w⟩ M G w {tmps:=vs++Array.replicate (fn.ntmps-vs.size) undef,defers:=[]} ?_) λe a' w' hp=>?_)
 ·exact {
   env:=he,since:=D9.refl ..,size:=by simp;omega,defers:=rfl,base:=rfl
   tmps:=λt=>by
    unfold A16
    by_cases ht:t<args.length
    ·have h1:(vs++Array.replicate (fn.ntmps-vs.size) undef).getD t undef=vs[t]:=by
      simp[A1B (show t<vs.size by omega),show t<vs.size by omega]
     have h2:args.getD t .junk=args[t]:=by simp[ht]
     show VA M G bs (args.getD t .junk) ((vs++Array.replicate (fn.ntmps-vs.size) undef).getD t undef)
     rw[h1,h2]
     have:=hv t args[t] vs[t] (C5 ht) (J1 (by omega))
     generalize args[t]=c at this
     cases c with
     |tup cs=>exact this.elim
     |junk=>trivial
     |_=>exact this
    ·have:args.getD t .junk=.junk:=by simp[F7,A00 (Nat.le_of_not_lt ht)]
     rw[this]
     trivial}
 ·have fin:z8 fn.ntmps bs.length ⟨M,G,bs,w⟩ (A66 Q rs) a' w'->a'.defers=[]/\∃v,(results fn a'.tmps).run P w'=.ok v w'/\∃v',Ending.returned v=.returned v'/\∃M' G' r os',C1 M' G' os' w'/\D9 M G bs w M' G' os' w'/\VA M' G' os' r v'/\Q r os':=by
   rintro⟨M',G',os',ρ',hR,hk⟩
   obtain⟨v,h1,h2⟩:=D1c hR hrs hk
   exact⟨hR.defers,v,h1,v,rfl,h2⟩
  cases e with
  |normal=>exact fin hp
  |ret=>exact fin hp
  |exit id=>obtain⟨_,_,_,_,_,hk⟩:=hp;exact hk.elim
  |_=>exact hp.elim
end
theorem C2.goO2{P:Program}(hm:P.follows .mixedOrders=true){f n:Nat}{ic:IC}{rs:List RV}(h:C2 P f n ic rs){args:List AV}{bs:List AO}(hargs:Nat.ble args.length n=true){Q:AV->List AO->Prop}
  (hw:Go (xI P n bs.length ic (A64 Q rs) (λ_ _ _=>False) (A64 Q rs) (A0w 0 args) bs)):B4 P f args bs Q:=by
 obtain⟨fn,h1,h2,h3,h4,h5⟩:=h
 obtain⟨code,hb,hc⟩:=Y4.1 h4
 subst h2
 refine C9l hm h1 (by simpa using h3) hb hc h5 (P9 hargs) ?_
 rw[B0d]
 exact A3o (K:=⟨A64 Q rs,λ_ _ _=>False,A64 Q rs⟩) ⟨λL os h=>B8j h,λ_ _ _ h=>h,λL os h=>B8j h⟩ hw
end Go.Bi
end
section
namespace Go.Proofs
open Go.Bi
theorem B9T(t:Tb)(dc dk df dx:D)(h:O0 t dc dk df dx)(c:Ch)(hc:I1 c)(hq:D7 t c≠0):Pure Tryz.prog Q6 [eT t.nm dc dk df dx,c.av] (.tup [eT [] .nil .nil .nil .nil,.d (eI (D7 t c))]):=by
 have hC:=U3 t dc dk df dx h c hc
 obtain⟨q,hqq⟩:∃q,q=D7 t c:=⟨_,rfl⟩
 rw[<- hqq] at hC hq ⊢
 obtain⟨k,nm,to,⟨cn,ck,cl⟩,⟨vk,vn,vs⟩⟩:=c
 refine V1.go A6 rfl ?_
 repeat' first|refine st ?_|((with_reducible first|apply A9|apply A8);(·exact hC))|(with_reducible first|apply A5|apply A4)<;>intro _
 all_goals rfl
theorem C07 (T0 T1 T2 T3 T4 T7 : AO) (nm : List UInt8) (es : List (List D)) (hm : ∀ e ∈ es, e.length = 3) (i : Nat) (hi : i < es.length) (hel : es.length ≤ 1048576) (ks : List Int) (hkb : ∀ k ∈ ks, 0 ≤ k ∧ k ≤ 1048576) (hkl : ks.length ≤ 1048576) (kn : Bool) (hkn : kn = true → ks = []) (xs : List Ex) (hxl : xs.length ≤ 1048576) (hxb : ∀ e ∈ xs, e.bk ≤ 1048576) (xn : Bool) (hxn : xn = true → xs = []) :
    B4 Tryz.prog A0r [.ptr 10 0, .d (eI i)] [T0, T1, T2, T3, T4, .arr es 3 0 false, .arr (A0 ks) 1 0 kn, T7, .rarr [] 2 true, .arr (xL xs) 7 0 xn, .cells [.d (.str nm), .arr 5 es.length, .arr 6 (A0 ks).length, .rs 8 0, .arr 9 (xL xs).length]]
      (fun r os => r = .tup [] ∧ os = [T0, T1, T2, T3, T4, .arr (es.eraseIdx i ++ [L7]) 3 (es.length - 1) false, .arr (A0 (ks.map fun c => B0 c i)) 1 0 kn, T7, .rarr [] 2 true, .arr (xL (xs.map (E3 (H5 es.length i)))) 7 0 xn,
        .cells [.d (.str nm), .d (.sl (es.eraseIdx i)), .arr 6 (A0 ks).length, .rs 8 0, .arr 9 (xL xs).length]]) := by
  have := B4.frame (K := fun r os => r = .tup [] ∧ os = [T0, T1, T2, T3, T4, .arr (es.eraseIdx i ++ [L7]) 3 (es.length - 1) false, .arr (A0 (ks.map fun c => B0 c i)) 1 0 kn, T7, .rarr [] 2 true, .arr (xL (xs.map (E3 (H5 es.length i)))) 7 0 xn,
        .cells [.d (.str nm), .d (.sl (es.eraseIdx i)), .arr 6 (A0 ks).length, .rs 8 0, .arr 9 (xL xs).length]]) (C06 nm es hm i hi hel ks hkb hkl kn hkn xs hxl hxb xn hxn) [10, 5, 6, 8, 9]
    [T0, T1, T2, T3, T4, .arr es 3 0 false, .arr (A0 ks) 1 0 kn, T7, .rarr [] 2 true, .arr (xL xs) 7 0 xn, .cells [.d (.str nm), .arr 5 es.length, .arr 6 (A0 ks).length, .rs 8 0, .arr 9 (xL xs).length]] rfl (by decide) (fun i o h => by
      match i, h with
      | 0, h => cases h; rfl
      | 1, h => cases h; rfl
      | 2, h => cases h; rfl
      | 3, h => cases h; rfl
      | 4, h => cases h; rfl
      | i + 5, h => simp at h) (fun a ha => by
        simp only [L4, m8, or_false] at ha
        rcases ha with rfl | rfl <;> simp [AV.bnd2, AV.bnd1]) (fun o ho => by
        simp only [L4, m8, or_false] at ho
        rcases ho with rfl | rfl | rfl | rfl | rfl
        · exact M3 rfl
        · exact M3 rfl
        · exact M3 rfl
        · exact M3 rfl
        · exact M3 rfl) (by
      rintro r bs' ⟨rfl, rfl⟩
      exact ⟨rfl, rfl⟩)
  exact this
theorem O4{d:D}{es:List (List D)}(h:B8 d es):B9 (A7 d) es=d:=by
 rcases h with ⟨rfl,rfl⟩|rfl<;>rfl
theorem V8{b:Bool}{es:List (List D)}(h:b=true->es=[]):B8 (B9 b es) es:=by
 cases b with
 |true=>exact .inl ⟨rfl,h rfl⟩
 |false=>exact .inr rfl
theorem l4{d:D}{es:List (List D)}(h:B8 d es)(hn:A7 d=true):es=[]:=by
 rcases h with ⟨_,h1⟩|rfl
 ·exact h1
 ·cases hn
theorem V5{os:List AO}{nm:List UInt8}{b f x:Nat}{dcv:AV}{dcd:D}{K X:List (List D)}{rows:List (List AV)}{fs:List Fo}{kn xn nl:Bool}{kz xz kf xf:Nat}{e:D}
  (h1:DC os dcv dcd) (h2:os[b]?=some (.arr K kz kf kn)) (h3:os[f]?=some (.rarr rows 2 nl)) (h4:os[x]?=some (.arr X xz xf xn)) (hl:fs.length=rows.length)
  (hr:∀(i:Nat) e (g:Fo),rows[i]?=some e->fs[i]?=some g->∃q es fl,e=[.arr q es.length,.d (.str g.tb)]/\os[q]?=some (.arr es 1 0 fl)/\g.d=B9 fl es) :
  DA os (.tup [.agg [.d (.str nm),dcv,.arr b K.length,.rs f rows.length,.arr x X.length],.d e]) (.tup [eT nm dcd (B9 kn K) (B9 nl (H9 fs)) (B9 xn X),.d e]):=by
 refine .inr ⟨_,_,rfl,rfl,rfl,λj c y hc hy=>?_⟩
 match j,hc,hy with
 |0,hc,hy=>
  cases hc;cases hy
  refine .inr ⟨_,[.str nm,dcd,B9 kn K,B9 nl (H9 fs),B9 xn X],rfl,rfl,rfl,λj c y hc hy=>?_⟩
  match j,hc,hy with
  |0,hc,hy=>cases hc;cases hy;exact .inl (.inl rfl)
  |1,hc,hy=>cases hc;cases hy;exact h1
  |2,hc,hy=>cases hc;cases hy;exact .inl (.inr ⟨b,K,kz,kf,kn,rfl,h2,rfl⟩)
  |3,hc,hy=>
   cases hc;cases hy
   refine .inr ⟨f,rows,2,nl,H9 fs,rfl,h3,by rw[A1M];exact hl,λi e e' he he'=>?_,rfl⟩
   obtain⟨g,hg,rfl⟩:∃g,fs[i]?=some g/\g.ds=e':=by
    unfold H9 at he'
    rw[F4] at he'
    exact G4.1 he'
   obtain⟨q,es,fl,rfl,h5,h6⟩:=hr i e g he hg
   refine⟨rfl,λj c x hc hx=>?_⟩
   match j,hc,hx with
   |0,hc,hx=>cases hc;cases hx;exact .inr ⟨q,es,1,0,fl,rfl,h5,h6⟩
   |1,hc,hx=>cases hc;cases hx;exact .inl rfl
   |j+2,hc,hx=>simp at hc
  |4,hc,hy=>cases hc;cases hy;exact .inl (.inr ⟨x,X,xz,xf,xn,rfl,h4,rfl⟩)
  |j+5,hc,hy=>simp at hc
 |1,hc,hy=>cases hc;cases hy;exact .inl ⟨e,.inl (.inl rfl),rfl⟩
 |j+2,hc,hy=>simp at hc
theorem A7w{α β:Type}(f:α->β):∀(l:List α)(i:Nat),(l.eraseIdx i).map f=(l.map f).eraseIdx i
 |[],i=>rfl
 |a::l,0=>rfl
 |a::l,i+1=>by simp[A7w f l i]
theorem A5s(l:List Co)(i:Nat):B3 (l.eraseIdx i)=(B3 l).eraseIdx i:=A7w _ _ _
def dF(l:List Fo):D:=B9 l.isEmpty (H9 l)
def I0(i:Nat)(g:Fo):Fo:=⟨g.nl,g.cs.map λc=>B0 c i,g.tb⟩
theorem A17(i:Nat)(g:Fo):(I0 i g).d=B9 (A7 g.d) (A0 (g.cs.map λc=>B0 c i)):=by
 obtain⟨nl,cs,tb⟩:=g
 unfold I0 Fo.d ng
 cases nl<;>cases cs<;>rfl
def k8(v:Vl)(k:Int):Bool:=N6 v&&(decide (v.k=0)||decide (v.k=k))
def K6(row:List Vl)(ks:List Int):Bool:=decide (row.length=ks.length)&&(row.zip ks).all λp=>k8 p.1 p.2
theorem C7f{α:Type}{p:α->Bool}{l:List α}{i:Nat}{x:α}(h:l[i]?=some x):(l.take (i+1)).all p=((l.take i).all p&&p x):=by
 rw[S0,h];simp
theorem B5h{α:Type}{p:α->Bool}{l:List α}{i:Nat}{x:α}(h:l[i]?=some x)(hx:p x=false):l.all p=false:=by
 rw[A4w]
 intro e
 have:=N9.1 e x (C3 h)
 rw[hx] at this;cases this
theorem B6u:∀{l:List (Int×Int)},fe l=0->∀x∈l,x.2=0
 |[],_,x,hx=>by cases hx
 |y::l,h,x,hx=>by
  unfold fe at h
  by_cases hy:y.2=0
  ·rw[if_pos hy] at h
   rcases L4.1 hx with rfl|hx
   ·exact hy
   ·exact B6u h x hx
  ·rw[if_neg hy] at h;exact absurd h hy
theorem D2x(v:Vl):(A2D v).k=v.k\/(A2D v).k=0:=by
 unfold A2D
 split
 ·exact .inl rfl
 ·exact .inr rfl
def Knd(l:List Vl)(ks:List Int):Prop:=l.length=ks.length/\∀i,(h:i<l.length)->(h2:i<ks.length)->l[i].k=ks[i]\/l[i].k=0
theorem Knd.all{l:List Vl}{ks:List Int}(h:Knd l ks){r:Int}(hr:∀x∈ks,x=0\/x=r):∀v∈l,v.k=r\/v.k=0:=by
 intro v hv
 obtain⟨i,hi,rfl⟩:=A2L.1 hv
 have h2:i<ks.length:=by have:=h.1;omega
 have h3:=h.2 i hi h2
 have h4:=hr ks[i] (A10 h2)
 omega
theorem w7(op n:Int)(v:Vl)(nm:List UInt8)(nl:Bool)(args:List Ex):F6 (.mk op n v nm nl args)=.mk op n v nm true (args.map F6):=by
 unfold F6
 rw[A48]
 split<;>rfl
theorem A7y{α β:Type}{f g:α->β}{l:List α}(h:∀a∈l,f a=g a):l.map f=l.map g:=S7 h
theorem A0k{α β γ:Type}{f:β->γ}{g:α->β}{h:α->γ}{l:List α}(hh:∀a∈l,f (g a)=h a):(l.map g).map f=l.map h:=by
 rw[V4];exact S7 hh
theorem A9t:∀e:Ex,F6 (F6 e)=F6 e:=by
 refine Ex.ind λop n v nm nl args ih=>?_
 rw[w7,w7,A0k (h:=F6) λa ha=>ih a ha]
theorem D2G{n:Int}(h1:IntKind.i64.min<=n)(h2:n<=IntKind.i64.max):w64 (n+0)=n:=by
 have e1:IntKind.i64.min=-9223372036854775808:=rfl
 have e2:IntKind.i64.max=9223372036854775807:=rfl
 rw[Int.add_zero]
 show IntKind.i64.wrap n=n
 rw[IntKind.wrap_i64]
 omega
theorem D1W:∀e:Ex,e.Rg->C0 0 e=F6 e:=by
 refine Ex.ind λop n v nm nl args ih hr=>?_
 cases hr with
 |mk h1 h2 h=>
  rw[D1X,w7,A7y (g:=F6) λa ha=>ih a ha (h a ha),D2G h1 h2]
  split<;>rfl
theorem B60:∀e:Ex,L5 (F6 e)=L5 e:=by
 refine Ex.ind λop n v nm nl args ih=>?_
 rw[w7,A2g,A2g,A0k (h:=L5) λa ha=>ih a ha]
theorem B5Z(ks:List Int):∀e:Ex,F8 ks (F6 e)=F8 ks e:=by
 refine Ex.ind λop n v nm nl args ih=>?_
 rw[w7,A0C,A0C,C7,A0k (h:=F8 ks) λa ha=>ih a ha]
theorem A7i{α:Type}{f g:α->List Int}:∀{l:List α},(∀a∈l,f a=g a)->l.flatMap f=l.flatMap g
 |[],_=>rfl
 |a::l,h=>by rw[A3x,A3x,h a (by simp),A7i λb hb=>h b (by simp[hb])]
theorem A7h{α β:Type}(f:α->β)(g:β->List Int):∀l:List α,(l.map f).flatMap g=l.flatMap λa=>g (f a)
 |[]=>rfl
 |a::l=>by rw[R6,A3x,A3x,A7h f g l]
theorem C8o:∀e:Ex,M5 (F6 e)=M5 e:=by
 refine Ex.ind λop n v nm nl args ih=>?_
 rw[w7,A4e,A4e,A7h,A7i (g:=M5) λa ha=>ih a ha]
theorem C8n(e:Ex):Q1 (F6 e)=Q1 e:=by unfold Q1;rw[C8o]
theorem A9u:∀e:Ex,e.Rg->(F6 e).Rg:=by
 refine Ex.ind λop n v nm nl args ih hr=>?_
 cases hr with
 |mk h1 h2 h=>
  rw[w7]
  refine .mk h1 h2 λa ha=>?_
  obtain⟨b,hb,rfl⟩:=E6.1 ha
  exact ih b hb (h b hb)
theorem B5u(op n n':Int)(v:Vl)(nm:List UInt8)(nl:Bool)(args args':List Ex)(h:J6 (xL args')<=J6 (xL args)):(Ex.mk op n' v nm true args').bk<=(Ex.mk op n v nm nl args).bk:=by
 rw[Ex.bk,Ex.bk,Ex.ds_mk,Ex.ds_mk]
 simp only[F2,U7,C7H]
 omega
theorem A5p:∀e:Ex,(F6 e).bk<=e.bk:=by
 refine Ex.ind λop n v nm nl args ih=>?_
 rw[w7]
 exact B5u _ _ _ _ _ _ _ _ (B5y F6 args ih)
theorem C8p:∀a b:Ex,F6 a=F6 b->x8 a b=true:=by
 refine Ex.ind λop n v nm nl args ih b h=>?_
 obtain⟨op',n',v',nm',nl',args'⟩:=b
 rw[w7,w7] at h
 injection h with e1 e2 e3 e4 e5 hm
 subst e1;subst e2;subst e3;subst e4
 rw[B8H,A7Q]
 have hl:args.length=args'.length:=by rw[<- C7 (f:=F6),hm,C7]
 simp only[decide_true,s0,hl,N9]
 intro p hp
 obtain⟨i,hi,rfl⟩:=A2L.1 hp
 rw[List.length_zip] at hi
 rw[List.getElem_zip]
 refine ih _ (A10 _) _ ?_
 have e1:(args.map F6)[i]?=some (F6 (args[i]'(by omega))):=by rw[F4,C5 (by omega)];rfl
 have e2:(args'.map F6)[i]?=some (F6 (args'[i]'(by omega))):=by rw[F4,C5 (by omega)];rfl
 rw[hm,e2] at e1
 exact(A03 e1).symm
def dnC(i:Nat):Ex->Ex
 |.mk op n v nm nl args=>.mk op (B0 n i) v nm nl args
def T8(i:Nat)(e:Ex):Ex:=O3 (dnC i) e
theorem A33(i:Nat)(op n:Int)(v:Vl)(nm:List UInt8)(nl:Bool)(args:List Ex):T8 i (.mk op n v nm nl args)=.mk op (if op=2 then B0 n i else n) v nm true (args.map (T8 i)):=by
 unfold T8
 rw[A48]
 split<;>rfl
theorem C8G(i:Nat):∀e:Ex,T8 i (F6 e)=T8 i e:=by
 refine Ex.ind λop n v nm nl args ih=>?_
 rw[w7,A33,A33,A0k (h:=T8 i) λa ha=>ih a ha]
theorem C8F(i:Nat):∀e:Ex,(T8 i e).bk<=e.bk:=by
 refine Ex.ind λop n v nm nl args ih=>?_
 rw[A33]
 exact B5u _ _ _ _ _ _ _ _ (B5y (T8 i) args ih)
theorem C7s{n:Int}(i:Nat)(h1:IntKind.i64.min<=n)(h2:n<=IntKind.i64.max):IntKind.i64.min<=B0 n i/\B0 n i<=IntKind.i64.max:=by
 have e1:IntKind.i64.min=-9223372036854775808:=rfl
 have e2:IntKind.i64.max=9223372036854775807:=rfl
 unfold B0
 split<;>omega
theorem C8I(i:Nat):∀e:Ex,e.Rg->(T8 i e).Rg:=by
 refine Ex.ind λop n v nm nl args ih hr=>?_
 cases hr with
 |mk h1 h2 h=>
  rw[A33]
  have hb:=C7s i h1 h2
  refine .mk (by split;exact hb.1;exact h1) (by split;exact hb.2;exact h2) λa ha=>?_
  obtain⟨b,hb,rfl⟩:=E6.1 ha
  exact ih b hb (h b hb)
theorem C8H(i:Nat):∀e:Ex,L5 (T8 i e)=L5 e:=by
 refine Ex.ind λop n v nm nl args ih=>?_
 rw[A33,A2g,A2g,A0k (h:=L5) λa ha=>ih a ha]
theorem A9l{ks:List Int}{op n:Int}{v:Vl}{nm:List UInt8}{nl:Bool}{args:List Ex}(h:(F8 ks (.mk op n v nm nl args)).2=0) :
  (S3 op args.length).2=true/\M4 op n v nm args.length=true/\(op=2->0<=n/\n<ks.length/\args=[]/\nm=[]/\v=K4)/\(op≠2->∀a∈args,(F8 ks a).2=0):=by
 rw[A0C] at h
 unfold R8 at h
 by_cases h1:(S3 op args.length).2=false
 ·rw[if_pos h1] at h;cases h
 by_cases h2:M4 op n v nm args.length=false
 ·rw[if_neg h1,if_pos h2] at h;cases h
 rw[if_neg h1,if_neg h2] at h
 have h2':M4 op n v nm args.length=true:=by simpa using h2
 refine⟨by simpa using h1,h2',λho=>?_,λho a ha=>?_⟩
 ·subst ho
  rw[if_pos rfl] at h
  rw[A9O] at h2'
  obtain⟨a1,a2,a3,a4,a5⟩:=of_decide_eq_true h2'
  have hv:v=K4:=by
   obtain⟨x,y,z⟩:=v
   simp only at a3 a4 a5
   subst a3;subst a4;subst a5;rfl
  by_cases hn:0<=n/\n<ks.length
  ·exact⟨hn.1,hn.2,A2K.1 a1,a2,hv⟩
  ·rw[if_neg hn] at h;cases h
 ·rw[if_neg ho] at h
  by_cases hf:fe (args.map (F8 ks))=0
  ·exact B6u hf _ (E6.2 ⟨a,ha,rfl⟩)
  ·rw[if_neg hf] at h
   exact absurd h hf
theorem D0d{m:Nat}(i:Nat){n:Int}(h0:0<=n)(h1:n<m):(H5 m i).getD n.toNat A7B=mvE n i:=by
 have hl:n.toNat<m:=by omega
 unfold H5
 rw[F7,F4,List.getElem?_range hl,A02,j0]
 congr 1
 omega
theorem D2d{ks:List Int}{m:Nat}(i:Nat)(hm:ks.length=m):∀e:Ex,(F8 ks e).2=0->E3 (H5 m i) (F6 e)=T8 i e:=by
 refine Ex.ind λop n v nm nl args ih h=>?_
 obtain⟨_,_,h3,h4⟩:=A9l h
 rw[w7,A33]
 unfold E3
 rw[A48]
 by_cases ho:op=2
 ·obtain⟨a1,a2,rfl,rfl,rfl⟩:=h3 ho
  subst ho
  rw[if_pos rfl,if_pos rfl]
  have hin:inC (H5 m i) n K4 [] 0=true:=by
   unfold inC
   rw[A0Q]
   exact decide_eq_true ⟨rfl,rfl,⟨rfl,rfl,rfl⟩,a1,by omega⟩
  show(if inC (H5 m i) n K4 [] 0=true then F6 ((H5 m i).getD n.toNat A7B) else _)=_
  rw[if_pos hin,D0d i a1 (by omega)]
  unfold mvE
  rw[w7]
  rfl
 ·rw[if_neg ho,if_neg ho,A0k (f:=O3 (A2z (H5 m i))) (h:=T8 i) λa ha=>ih a ha (h4 ho a ha)]
theorem C96(ks:List Int)(i:Nat){n:Int}(h0:0<=n)(hne:n≠i):(ks.eraseIdx i).getD (B0 n i).toNat 0=ks.getD n.toNat 0:=by
 rw[F7,F7,A3z]
 unfold B0
 by_cases h:(i:Int)<n
 ·rw[if_pos h,if_neg (by omega)]
  congr 2
  omega
 ·rw[if_neg h,if_pos (by omega)]
theorem C84{ks:List Int}{i:Nat}(hi:i<ks.length):∀e:Ex,(F8 ks e).2=0->¬(i:Int)∈M5 e->F8 (ks.eraseIdx i) (T8 i e)=F8 ks e:=by
 refine Ex.ind λop n v nm nl args ih h hi'=>?_
 obtain⟨h1,h2,h3,h4⟩:=A9l h
 rw[A4e] at hi'
 rw[A33,A0C,A0C,C7]
 by_cases ho:op=2
 ·obtain⟨a1,a2,rfl,rfl,rfl⟩:=h3 ho
  subst ho
  have hne:n≠i:=λe=>hi' (by rw[e];simp)
  rw[if_pos rfl]
  unfold R8
  have hf:M4 2 (B0 n i) K4 [] ([]:List Ex).length=true:=by rw[A9O];exact decide_eq_true ⟨rfl,rfl,rfl,rfl,rfl⟩
  have hlen:(ks.eraseIdx i).length=ks.length-1:=by rw[A1D,if_pos hi]
  have hb:0<=B0 n i/\B0 n i<(ks.eraseIdx i).length:=by rw[hlen];unfold B0;split<;>omega
  rw[h1,h2,hf,if_neg (by decide),if_neg (by decide),if_pos rfl,if_pos hb,if_neg (by decide),if_neg (by decide),if_pos rfl,if_pos ⟨a1,a2⟩,C96 ks i a1 hne]
 ·rw[if_neg ho]
  unfold R8
  rw[if_neg ho,if_neg ho,A0k (f:=F8 (ks.eraseIdx i)) (g:=T8 i) (h:=F8 ks) λa ha=>ih a ha (h4 ho a ha) λhm=>hi' (R3.2 (.inr (A3B.2 ⟨a,ha,hm⟩)))]
theorem B5P{n:Int}{ks:List Int}{rs:List (Int×Int)}(h0:0<=n)(h1:n<ks.length):R8 2 n K4 [] ks 0 rs=(ks.getD n.toNat 0,0):=by
 have hf:M4 2 n K4 [] 0=true:=by rw[A9O];exact decide_eq_true ⟨rfl,rfl,rfl,rfl,rfl⟩
 have hc:(S3 2 (0:Nat)).2=true:=by decide
 unfold R8
 rw[hc,hf,if_neg (by decide),if_neg (by decide),if_pos rfl,if_pos ⟨h0,h1⟩]
theorem C85{ks:List Int}(k:Int):∀e:Ex,(F8 ks e).2=0->F8 (ks++[k]) e=F8 ks e:=by
 refine Ex.ind λop n v nm nl args ih h=>?_
 obtain⟨h1,h2,h3,h4⟩:=A9l h
 rw[A0C,A0C]
 by_cases ho:op=2
 ·obtain⟨a1,a2,rfl,rfl,rfl⟩:=h3 ho
  subst ho
  rw[m7,B5P a1 a2,B5P a1 (by rw[M7];simp;omega)]
  have:(ks++[k]).getD n.toNat 0=ks.getD n.toNat 0:=by
   rw[F7,F7,J5 (by omega)]
  rw[this]
 ·unfold R8
  rw[if_neg ho,if_neg ho,A7y (f:=F8 (ks++[k])) (g:=F8 ks) λa ha=>ih a ha (h4 ho a ha)]
theorem C86{ks:List Int}{i:Nat}(k:Int):∀e:Ex,¬(i:Int)∈M5 e->F8 (ks.set i k) e=F8 ks e:=by
 refine Ex.ind λop n v nm nl args ih hi=>?_
 rw[A4e] at hi
 rw[A0C,A0C,A7y (f:=F8 (ks.set i k)) (g:=F8 ks) λa ha=>ih a ha λhm=>hi (R3.2 (.inr (A3B.2 ⟨a,ha,hm⟩)))]
 unfold R8
 rw[V3]
 by_cases ho:op=2
 ·subst ho
  have hne:n≠i:=λe=>hi (by rw[e];simp)
  by_cases hn:0<=n/\n<ks.length
  ·have:(ks.set i k).getD n.toNat 0=ks.getD n.toNat 0:=by
    rw[F7,F7,P7 (by omega)]
   rw[this]
  ·simp only[hn,if_false]
 ·simp only[ho,if_false]
def acF:List Vl->List Co->Int
 |v::r,c::l=>if N6 v=false then 8 else if v.k=0 then (if c.nl then acF r l else 12) else if v.k=c.k then acF r l else 7
 |_,_=>0
def F5(row:List Vl)(Q1:List Co):Int:=if row.length=Q1.length then acF row Q1 else 13
theorem C76{row:List Vl}{Q1:List Co}{i:Nat}{v:Vl}{c:Co}(h:row[i]?=some v)(hc:Q1[i]?=some c):acF (row.drop i) (Q1.drop i)=if N6 v=false then 8 else if v.k=0 then (if c.nl then acF (row.drop (i+1)) (Q1.drop (i+1)) else 12) else if v.k=c.k then acF (row.drop (i+1)) (Q1.drop (i+1)) else 7:=by
 obtain⟨hlt,he⟩:=B2.1 h
 obtain⟨hlt2,he2⟩:=B2.1 hc
 rw[V2 hlt,he,V2 hlt2,he2,acF]
theorem C0L(n:List UInt8)(l:List Co)(hl:l.length<=1048576)(dc dk df dx:D)(hc:B8 dc (B3 l))(row:List Vl)(hr:row.length<=1048576)(hrs:∀v∈row,v.s.length<=1048576)(dr:D)(hdr:B8 dr (D6 row)):Pure Tryz.prog A8A [eT n dc dk df dx,.d dr] (.d (eI (F5 row l))):=by
 refine C1N.go A6 rfl ?_
 have h1:=G8 l
 have hm:=I3 l
 have h2:=Y5 row
 have hm2:=A0H row
 unfold F5
 by_cases hll:row.length=l.length
 rotate_left
 ·rw[if_neg hll]
  repeat' first|refine st ?_|(with_reducible first|apply A5|apply A4)<;>intro _
  all_goals first|rfl|(exfalso;omega)
 rw[if_pos hll]
 have hll2:(D6 row).length=(B3 l).length:=by omega
 obtain⟨q,hq⟩:∃q,q=acF row l:=⟨_,rfl⟩
 rw[<- hq]
 repeat' first|refine st ?_|(with_reducible first|apply A5|apply A4)<;>intro _
 refine G6 A6 C4g C3q (λ(i:Nat)=>[.d (eI i)]) (λi=>[.cells [.d (.str n),.d dc,.d dk,.d df,.d dx]]) (λi=>i<=row.length/\q=acF (row.drop i) (l.drop i)) (λi=>row.length-i) 0 rfl rfl rfl rfl (λ_ _=>⟨rfl,rfl⟩) rfl ⟨by omega,hq⟩ ?_
 repeat' first|refine st ?_|(with_reducible first|apply A5|apply A4)<;>intro _
 intro i ⟨h4,h5⟩
 cases hx:row[i]? with
 |some v=>
  have hlt:=(B2.1 hx).1
  obtain⟨c,hcx⟩:∃c,l[i]?=some c:=⟨_,C5 (by omega)⟩
  have hg:=A5u hx
  have hg2:(B3 l)[((i:Nat):Int).toNat]?=some c.ds:=M8 hcx
  have hb2:(i:Int)<(B3 l).length:=by omega
  have hV:=B1i v (P3 (hrs v (C3 hx)) (by omega))
  rw[C76 hx hcx] at h5
  cases hv:N6 v with
  |false=>
   rw[if_pos hv] at h5
   rw[hv] at hV
   rw[h5]
   repeat' first|refine st ?_|((with_reducible first|apply A9|apply A8);(·exact hV))|(with_reducible first|apply A5|apply A4)<;>intro _
   all_goals rfl
  |true=>
   rw[hv] at hV
   rw[if_neg (by rw[hv];simp)] at h5
   obtain⟨cn,ck,cl⟩:=c
   dsimp only at h5 hg2
   by_cases hk:v.k=0
   ·rw[if_pos hk] at h5
    cases cl with
    |true=>
     rw[if_pos rfl] at h5
     repeat' first|refine st ?_|((with_reducible first|apply A9|apply A8);(·exact hV))|(with_reducible first|apply A5|apply A4)<;>intro _
     exact⟨i+1,rfl,rfl,rfl,by omega,by omega,h5⟩
    |false=>
     rw[if_neg (by simp)] at h5
     rw[h5]
     repeat' first|refine st ?_|((with_reducible first|apply A9|apply A8);(·exact hV))|(with_reducible first|apply A5|apply A4)<;>intro _
     all_goals rfl
   ·rw[if_neg hk] at h5
    by_cases hkk:v.k=ck
    ·rw[if_pos hkk] at h5
     repeat' first|refine st ?_|((with_reducible first|apply A9|apply A8);(·exact hV))|(with_reducible first|apply A5|apply A4)<;>intro _
     exact⟨i+1,rfl,rfl,rfl,by omega,by omega,h5⟩
    ·rw[if_neg hkk] at h5
     rw[h5]
     repeat' first|refine st ?_|((with_reducible first|apply A9|apply A8);(·exact hV))|(with_reducible first|apply A5|apply A4)<;>intro _
     all_goals rfl
 |none=>
  have hge:=E4.1 hx
  rw[W2 hge] at h5
  rw[h5]
  repeat' first|refine st ?_|(with_reducible first|apply A5|apply A4)<;>intro _
  all_goals rfl
def pick(row:List Vl)(ks:List Int):List Vl:=ks.map (vAt row)
theorem B1g(ks:List Int)(hk:ks.length<=1048576)(d d':D)(hd:B8 d (A0 ks))(hd':B8 d' (A0 ks)):Pure Tryz.prog A6K [.d d,.d d'] (.d (.bool true)):=by
 refine C1Q.go A6 rfl ?_
 have h1:=B6 ks
 have hm:=D4 ks
 repeat' first|refine st ?_|(with_reducible first|apply A5|apply A4)<;>intro _
 refine G6 A6 C4i C3s (λ(i:Nat)=>[.d (eI i)]) (λi=>[]) (λi=>i<=ks.length) (λi=>ks.length-i) 0 rfl rfl rfl rfl (λ_ _=>⟨rfl,rfl⟩) rfl (S8 _) ?_
 repeat' first|refine st ?_|(with_reducible first|apply A5|apply A4)<;>intro _
 intro i h4
 cases hx:ks[i]? with
 |some k=>
  have hlt:=(B2.1 hx).1
  have hg:=O2 hx
  repeat' first|refine st ?_|(with_reducible first|apply A5|apply A4)<;>intro _
  exact⟨i+1,rfl,rfl,rfl,by omega,by omega⟩
 |none=>
  have hge:=E4.1 hx
  repeat' first|refine st ?_|(with_reducible first|apply A5|apply A4)<;>intro _
  all_goals rfl
theorem D2u(v:Vl):A4q v v=0:=by
 have h:A09 v.s v.s=0:=(A9p v.s v.s).2.2.1.2 rfl
 have h2:∀n:Int,A2f n n=0:=λn=>by unfold A2f;rw[if_neg (by omega),if_neg (by omega)]
 unfold A4q
 rw[h,h2,h2];rfl
theorem C0X(v:Vl):Pure Tryz.prog A8t [eV v,eV v] (.d (eI 0)):=by
 have h:=C0W v v
 rw[D2u] at h
 exact h
theorem C10(row:List Vl)(hr:row.length<=1048576)(d d':D)(hd:B8 d (D6 row))(hd':B8 d' (D6 row)):Pure Tryz.prog A4Z [.d d,.d d'] (.d (.bool true)):=by
 have hC:Pure Tryz.prog B3Y [.d d,.d d'] (.d (eI 0)):=by
  refine C1C.go A6 rfl ?_
  have h1:=Y5 row
  have hm:=A0H row
  repeat' first|refine st ?_|(with_reducible first|apply A5|apply A4)<;>intro _
  refine G6 A6 C4a C3k (λ(i:Nat)=>[.d (eI i)]) (λi=>[]) (λi=>i<=row.length) (λi=>row.length-i) 0 rfl rfl rfl rfl (λ_ _=>⟨rfl,rfl⟩) rfl (S8 _) ?_
  repeat' first|refine st ?_|(with_reducible first|apply A5|apply A4)<;>intro _
  intro i h4
  cases hx:row[i]? with
  |some v=>
   have hlt:=(B2.1 hx).1
   have hg:=A5u hx
   have hR:=C0X v
   repeat' first|refine st ?_|((with_reducible first|apply A9|apply A8);(·exact hR))|(with_reducible first|apply A5|apply A4)<;>intro _
   exact⟨i+1,rfl,rfl,rfl,by omega,by omega⟩
  |none=>
   have hge:=E4.1 hx
   repeat' first|refine st ?_|(with_reducible first|apply A5|apply A4)<;>intro _
   all_goals rfl
 refine C1D.go A6 rfl ?_
 repeat' first|refine st ?_|((with_reducible first|apply A9|apply A8);(·exact hC))|(with_reducible first|apply A5|apply A4)<;>intro _
 all_goals rfl
theorem B8Q{t:Tb}(h:H8 t=0):L6 t.nm=true/\u4 t.cs=0/\A0g t.cs t.ks=0/\A1d t=0:=by
 unfold H8 at h
 split at h
 ·rename_i h1
  split at h
  ·rename_i h2
   split at h
   ·rename_i h3;exact⟨h1,h2,h3,h⟩
   ·rename_i h3;exact absurd h h3
  ·rename_i h2;exact absurd h h2
 ·cases h
theorem B5T{l:List Co}(h:u4 l=0):1<=l.length/\l.length<=12/\n5 [] l=0:=by
 unfold u4 at h
 split at h
 ·rename_i h1;exact⟨h1.1,h1.2,h⟩
 ·cases h
theorem B5V:∀{l:List Co}{seen:List (List UInt8)},n5 seen l=0->∀(i:Nat) c,l[i]?=some c->L6 c.nm=true/\1<=c.k/\c.k<=3/\¬c.nm∈seen/\∀(j:Nat) d,l[j]?=some d->d.nm=c.nm->j=i
 |[],_,_,i,c,hi=>by simp at hi
 |a::r,seen,h,i,c,hi=>by
  unfold n5 at h
  split at h
  ·rename_i h1
   split at h
   ·rename_i h2
    split at h
    ·cases h
    ·rename_i h3
     have ih:=B5V h
     cases i with
     |zero=>
      simp only[A0X,w5] at hi
      subst hi
      refine⟨h1,h2.1,h2.2,h3,λj d hj e=>?_⟩
      cases j with
      |zero=>rfl
      |succ j=>
       rw[Z1] at hj
       exact absurd (by simp[e]) (ih j d hj).2.2.2.1
     |succ i=>
      rw[Z1] at hi
      obtain⟨g1,g2,g3,g4,g5⟩:=ih i c hi
      refine⟨g1,g2,g3,λhm=>g4 (by simp[hm]),λj d hj e=>?_⟩
      cases j with
      |zero=>
       simp only[A0X,w5] at hj
       subst hj
       exact absurd (by simp[e]) g4
      |succ j=>
       rw[Z1] at hj
       rw[g5 j d hj e]
   ·cases h
  ·cases h
theorem B6B{nm:List UInt8}:∀{l:List Co}{s i:Nat}{c:Co},l[i]?=some c->c.nm=nm->(∀(j:Nat) d,l[j]?=some d->d.nm=nm->j=i)->k7 nm s l=(s+i:Nat)
 |[],s,i,c,hi,_,_=>by simp at hi
 |a::r,s,i,c,hi,e,hu=>by
  unfold k7
  cases i with
  |zero=>
   simp only[A0X,w5] at hi
   subst hi
   rw[if_pos e];simp
  |succ i=>
   rw[if_neg (λh=>by have:=hu 0 a rfl h;omega)]
   rw[Z1] at hi
   rw[B6B (s:=s+1) hi e (λj d hj e'=>by have:=hu (j+1) d (by rw[Z1];exact hj) e';omega)]
   congr 1;omega
theorem C9e{l:List Co}(h:u4 l=0){i:Nat}{c:Co}(hi:l[i]?=some c):D8 c.nm l=i:=by
 have:=B5V (B5T h).2.2 i c hi
 have:=B6B (s:=0) hi rfl this.2.2.2.2
 rw[D8,this];simp
theorem B5b:∀{row:List Vl}{l:List Co},row.length=l.length->acF row l=0->∀(i:Nat) v c,row[i]?=some v->l[i]?=some c->N6 v=true/\(v.k=0->c.nl=true)/\(v.k=0\/v.k=c.k)
 |[],_,_,_,i,v,c,hi,_=>by simp at hi
 |a::r,[],h,_,_,_,_,_,_=>by simp at h
 |a::r,b::l,hl,h,i,v,c,hi,hc=>by
  unfold acF at h
  have key:N6 a=true/\(a.k=0->b.nl=true)/\(a.k=0\/a.k=b.k)/\acF r l=0:=by
   split at h
   ·cases h
   ·rename_i h1
    refine⟨by simpa using h1,?_⟩
    split at h
    ·rename_i h2
     split at h
     ·rename_i h3;exact⟨λ_=>h3,.inl h2,h⟩
     ·cases h
    ·rename_i h2
     split at h
     ·rename_i h3;exact⟨λe=>absurd e h2,.inr h3,h⟩
     ·cases h
  cases i with
  |zero=>
   simp only[A0X,w5] at hi hc
   subst hi;subst hc
   exact⟨key.1,key.2.1,key.2.2.1⟩
  |succ i=>
   rw[Z1] at hi hc
   exact B5b (by simpa using hl) key.2.2.2 i v c hi hc
theorem C7a{row:List Vl}{l:List Co}(h:F5 row l=0):row.length=l.length/\∀(i:Nat) v c,row[i]?=some v->l[i]?=some c->N6 v=true/\(v.k=0->c.nl=true)/\(v.k=0\/v.k=c.k):=by
 unfold F5 at h
 split at h
 ·rename_i h1;exact⟨h1,B5b h1 h⟩
 ·cases h
theorem C79{row:List Vl}{l:List Co}(h:F5 row l=0):K6 row (kd l)=true:=by
 obtain⟨h1,h2⟩:=C7a h
 unfold K6
 rw[decide_eq_true (by rw[S5];exact h1),s0,N9]
 intro p hp
 obtain⟨i,hi⟩:=A2J hp
 rw[A6F] at hi
 obtain⟨hi1,hi2⟩:=hi
 unfold kd at hi2
 rw[F4] at hi2
 cases hc:l[i]? with
 |none=>rw[hc] at hi2;cases hi2
 |some c=>
  rw[hc] at hi2
  simp only[A02,w5] at hi2
  obtain⟨g1,g2,g3⟩:=h2 i p.1 c hi1 hc
  unfold k8
  rw[g1,<- hi2]
  rcases g3 with g3|g3
  ·simp[g3]
  ·simp[g3]
end Go.Proofs
end
