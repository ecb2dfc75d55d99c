/- Texts of this claim, joined. No condition. -/
import Derived.Test.YtnhhopmldgpglaaGreatQ4
set_option linter.unusedSimpArgs false
set_option linter.unusedVariables false
set_option maxRecDepth 10000
set_option maxHeartbeats 4000000
section
namespace Go.Proofs
open Go.Bi
inductive Ex.Lb(B:Nat):Ex->Prop
 |mk {op n:Int} {v:Vl} {nm:List UInt8} {nl:Bool} {args:List Ex} (h1:args.length<=B) (h2:v.s.length<=B) (h3:nm.length<=B) (h:∀a∈args,Ex.Lb B a):Ex.Lb B (.mk op n v nm nl args)
theorem Lb.bounds{B:Nat}{op n:Int}{v:Vl}{nm:List UInt8}{nl:Bool}{args:List Ex}(h:(Ex.mk op n v nm nl args).Lb B):args.length<=B/\v.s.length<=B/\nm.length<=B/\∀a∈args,a.Lb B:=by
 cases h with
 |mk h1 h2 h3 h=>exact⟨h1,h2,h3,h⟩
theorem B7Q{B:Nat}:∀e:Ex,e.bk<=B->e.Lb B:=by
 refine Ex.ind λop n v nm nl args ih hb=>?_
 obtain⟨b1,b2,b3,b4⟩:=Ex.bk_bounds hb
 exact .mk b1 b2 b3 λa ha=>ih a ha (b4 a ha)
theorem C15:∀a:Ex,a.Lb 2097152->∀b:Ex,b.Lb 2097152->Pure Tryz.prog A4U [a.av,b.av] (.d (.bool (smE a b))):=by
 refine Ex.ind λop n v name nl args ih hbk b hbb=>?_
 obtain⟨op',n',v',name',nl',args'⟩:=b
 obtain⟨b1,b2,b3,b4⟩:=Lb.bounds hbk
 obtain⟨c1,c2,c3,c4⟩:=Lb.bounds hbb
 have ih':∀a∈args,∀b∈args',Pure Tryz.prog A4U [a.av,b.av] (.d (.bool (smE a b))):=λa ha b hb=>ih a ha (b4 a ha) b (c4 b hb)
 clear ih
 rw[Ex.av_mk,Ex.av_mk,B9m]
 have hd:B5 (ng nl (xL args)) (xL args):=i5
 have hd':B5 (ng nl' (xL args')) (xL args'):=i5
 have hlen:=I3 args
 have hm:=N5 args
 have hlen':=I3 args'
 have hm':=N5 args'
 have hget:=A84 (args:=args)
 have hget':=A84 (args:=args')
 obtain⟨d,hde⟩:∃d,d=ng nl (xL args):=⟨_,rfl⟩
 obtain⟨d',hde'⟩:∃d,d=ng nl' (xL args'):=⟨_,rfl⟩
 rw[<- hde] at hd ⊢
 rw[<- hde'] at hd' ⊢
 obtain⟨es,hes⟩:∃es,es=xL args:=⟨_,rfl⟩
 rw[<- hes] at hlen hm hd hget
 obtain⟨es',hes'⟩:∃es,es=xL args':=⟨_,rfl⟩
 rw[<- hes'] at hlen' hm' hd' hget'
 refine C27.go A6 rfl ?_
 have hv:decide (v=v')=(decide (v.k=v'.k)&&(decide (v.n=v'.n)&&decide (v.s=v'.s))):=by
  rw[A08]
  simp only[decide_eq_true_eq,O9,B0D]
 by_cases hall:op=op'/\n=n'/\v=v'/\name=name'/\args.length=args'.length
 rotate_left
 ·have hr:(decide (op=op')&&decide (n=n')&&decide (v=v')&&decide (name=name')&&smL args args')=false:=by
   rw[Bool.eq_false_iff]
   intro h
   simp only[O9,decide_eq_true_eq,A7S] at h
   exact hall ⟨h.1.1.1.1,h.1.1.1.2,h.1.1.2,h.1.2,h.2.1⟩
  rw[hr]
  clear hr
  have hlle:((es.length:Int)=es'.length)↔args.length=args'.length:=by omega
  rw[B0D] at hall
  clear hget hget' ih'
  by_cases g1:op=op'
  rotate_left
  ·repeat' first|refine st ?_|(with_reducible first|apply A5|apply A4)<;>intro _
   all_goals rfl
  by_cases g2:n=n'
  rotate_left
  ·repeat' first|refine st ?_|(with_reducible first|apply A5|apply A4)<;>intro _
   all_goals rfl
  by_cases g3:v.k=v'.k/\v.n=v'.n/\v.s=v'.s
  rotate_left
  ·repeat' first|refine st ?_|(with_reducible first|apply A5|apply A4)<;>intro _
   all_goals first|rfl|(exfalso;simp_all)
  obtain⟨g3,g4,g5⟩:=g3
  by_cases g6:name=name'
  rotate_left
  ·repeat' first|refine st ?_|(with_reducible first|apply A5|apply A4)<;>intro _
   all_goals first|rfl|(exfalso;simp_all)
  have g7:¬(es.length:Int)=es'.length:=λh=>hall ⟨g1,g2,⟨g3,g4,g5⟩,g6,hlle.1 h⟩
  repeat' first|refine st ?_|(with_reducible first|apply A5|apply A4)<;>intro _
  all_goals first|rfl|(exfalso;simp_all;done)|(exfalso;omega)
 obtain⟨rfl,rfl,rfl,rfl,hll⟩:=hall
 obtain⟨q,hq⟩:∃q,q=(decide (op=op)&&decide (n=n)&&decide (v=v)&&decide (name=name)&&smL args args'):=⟨_,rfl⟩
 rw[<- hq]
 rw[A7S,decide_eq_true hll] at hq
 simp only[decide_true,s5] at hq
 have hl2:(es.length:Int)=es'.length:=by omega
 have hl3:es.length=es'.length:=by omega
 have r1:v.s=v.s:=rfl
 have r2:name=name:=rfl
 repeat' first|refine st ?_|(with_reducible first|apply A5|apply A4)<;>intro _
 refine F3 A6 C53 C3X (λ(i:Nat)=>[.d (eI i)]) (λi=>[.cells [.d (eI op),.d (eI n),.d (eI v.k),.d (eI v.n),.d (.str v.s),.d (.str name),.d d],.cells [.d (eI op),.d (eI n),.d (eI v.k),.d (eI v.n),.d (.str v.s),.d (.str name),.d d']]) (λi=>i<=args.length/\((args.zip args').take i).all (λp=>smE p.1 p.2)=true) (λi=>args.length-i) 0 rfl rfl rfl rfl (λ_ _=>⟨rfl,rfl⟩) rfl ⟨by omega,rfl⟩ ?_
 repeat' first|refine st ?_|(with_reducible first|apply A5|apply A4)<;>intro _
 intro i ⟨h4,h5⟩
 cases hx:args[i]? with
 |some x=>
  have hlt:=(B2.1 hx).1
  obtain⟨y,hy⟩:∃y,args'[i]?=some y:=⟨_,C9 (by omega)⟩
  have hz:(args.zip args')[i]?=some (x,y):=List.getElem?_zip_eq_some.2 ⟨hx,hy⟩
  have hI:=ih' x (C2 hx) y (C2 hy)
  have hs:=C8w (p:=λp:Ex×Ex=>smE p.1 p.2) hz
  have hn:=C8u (p:=λp:Ex×Ex=>smE p.1 p.2) hz
  rw[h5,s5] at hs
  dsimp only at hs hn
  obtain⟨b,hb⟩:∃b,b=smE x y:=⟨_,rfl⟩
  rw[<- hb] at hI hs hn
  obtain⟨o1,n1,v1,m1,l1,a1⟩:=x
  obtain⟨o2,n2,v2,m2,l2,a2⟩:=y
  rw[Ex.av_mk,Ex.av_mk] at hI
  have hg:=hget i _ _ _ _ _ _ hx
  have hg':es'[((i:Nat):Int).toNat]?=_:=hget' i _ _ _ _ _ _ hy
  have hlt':(i:Int)<es'.length:=by omega
  cases b with
  |true=>
   repeat' first|refine st ?_|((with_reducible first|apply A8|apply A7);(·exact hI))|(with_reducible first|apply A5|apply A4)<;>intro _
   exact⟨i+1,rfl,rfl,rfl,by omega,by omega,hs⟩
  |false=>
   rw[hn rfl] at hq
   rw[hq]
   repeat' first|refine st ?_|((with_reducible first|apply A8|apply A7);(·exact hI))|(with_reducible first|apply A5|apply A4)<;>intro _
   all_goals rfl
 |none=>
  have hge:=D1.1 hx
  rw[L0 (by rw[List.length_zip];omega)] at h5
  rw[h5] at hq
  rw[hq]
  repeat' first|refine st ?_|(with_reducible first|apply A5|apply A4)<;>intro _
  all_goals rfl
theorem C0W(g:FuncId)(φ:Ex->Ex)(hg:∀x:Ex,Pure Tryz.prog g [x.av] (φ x).av):∀e:Ex,e.bk<=1048576->Pure Tryz.prog A2N [e.av,.d (.fn g)] (O4 φ e).av:=by
 refine Ex.ind λop n v nm nl args ih hb=>?_
 obtain⟨b1,b2,b3,b4⟩:=Ex.bk_bounds hb
 obtain⟨Z,hZ⟩:∃Z,Z=(O4 φ (.mk op n v nm nl args)).av:=⟨_,rfl⟩
 rw[<- hZ]
 rw[A40] at hZ
 rw[Ex.av_mk]
 refine B1B.go A6 rfl ?_
 have h1:=I3 args
 have hm:=N5 args
 obtain⟨da,hda⟩:∃d,d=ng nl (xL args):=⟨_,rfl⟩
 have hsd:B5 da (xL args):=by rw[hda];exact i5
 rw[<- hda]
 have r0:v.k=v.k:=rfl
 have r1:v.s=v.s:=rfl
 have r2:nm=nm:=rfl
 repeat' first|refine st ?_|(with_reducible first|apply A5|apply A4)<;>intro _
 refine s0 5 7 rfl rfl ?_
 repeat' first|refine st ?_|(with_reducible first|apply A5|apply A4)<;>intro _
 refine I8 A6 B4m B47 (λ(i:Nat) (w:List (List D)×Bool)=>[.arr 2 w.1.length,.d (eI i)]) (λi w=>[.cells [.d (eI op),.d (eI n),.d (eI v.k),.d (eI v.n),.d (.str v.s),.d (.str nm),.d da],.cells [.d (eI 0),.d (eI 0),.d (eI 0),.d (eI 0),.d (.str []),.d (.str []),.d .nil],.arr w.1 7 0 w.2]) (λi w=>i<=args.length/\w.1=Mt (O4 φ) args i/\w.2=w.1.isEmpty) (λi _=>args.length-i) 0 ([],true) rfl rfl rfl rfl (λ_ _ _=>⟨rfl,rfl⟩) rfl ⟨by omega,rfl,rfl⟩ ?_
 repeat' first|refine st ?_|(with_reducible first|apply A5|apply A4)<;>intro _
 intro i w ⟨h4,h5,h6⟩
 obtain⟨A,b⟩:=w
 dsimp only at h5 h6 ⊢
 have hAl:A.length=i:=by rw[h5];exact x5 _ args i (by omega)
 have hAm:∀e∈A,e.length=7:=by rw[h5];exact x6 _ _ _
 cases hx:args[i]? with
 |some x=>
  have hlt:=(B2.1 hx).1
  have hs:=x7 (φ:=O4 φ) hx
  have hg:=m4 hx
  have hi:=ih x (C2 hx) (b4 x (C2 hx))
  rw[<- h5] at hs
  obtain⟨z,hz⟩:∃z,z=O4 φ x:=⟨_,rfl⟩
  rw[<- hz] at hs hi
  obtain⟨o1,n1,v1,m1,l1,a1⟩:=x
  obtain⟨o2,n2,v2,m2,l2,a2⟩:=z
  rw[Ex.ds_mk] at hg hs
  simp only[Ex.av_mk] at hi
  repeat' first|refine st ?_|((with_reducible first|apply A8|apply A7);(·exact hi))|(with_reducible first|apply A5|apply A4)<;>intro _
  exact⟨i+1,(A++[V2 o2 n2 v2 m2 (ng l2 (xL a2))],false),rfl,rfl,rfl,by omega,by omega,hs,by simp⟩
 |none=>
  have hge:=D1.1 hx
  rw[x4 hge] at h5
  have hx':(Ex.mk op n v nm true (args.map (O4 φ))).av=eX op n v nm (if A.isEmpty then .nil else .sl A):=by rw[Ex.av_mk,A7C,<- h5]
  have hφ:=hg (.mk op n v nm true (args.map (O4 φ)))
  rw[<- h6] at hx'
  by_cases h2:op=2
  ·rw[if_pos h2] at hZ
   obtain⟨z,hz⟩:∃z,z=φ (.mk op n v nm true (args.map (O4 φ))):=⟨_,rfl⟩
   rw[<- hz] at hZ hφ
   rw[hx'] at hφ
   obtain⟨o2,n2,v2,m2,l2,a2⟩:=z
   simp only[Ex.av_mk] at hZ hφ
   rw[hZ]
   cases b with
   |true=>
    rw[if_pos rfl] at hφ
    repeat' first|refine st ?_|((with_reducible first|apply A8|apply A7);(·exact hφ))|(with_reducible first|apply A5|apply A4)<;>intro _
    all_goals rfl
   |false=>
    rw[if_neg (by simp)] at hφ
    repeat' first|refine st ?_|((with_reducible first|apply A8|apply A7);(·exact hφ))|(with_reducible first|apply A5|apply A4)<;>intro _
    all_goals rfl
  ·rw[if_neg h2,hx'] at hZ
   rw[hZ]
   cases b with
   |true=>
    repeat' first|refine st ?_|(with_reducible first|apply A5|apply A4)<;>intro _
    all_goals rfl
   |false=>
    repeat' first|refine st ?_|(with_reducible first|apply A5|apply A4)<;>intro _
    all_goals rfl
def E9(e:Ex):Ex:=O4 id e
def A7D:Ex:=.mk 0 0 U6 [] true []
def inC(l:List Ex)(n:Int)(v:Vl)(nm:List UInt8)(k:Nat):Bool:=decide (k=0/\nm=[]/\(v.k=0/\v.n=0/\v.s=[])/\0<=n/\n<l.length)
def A2A(l:List Ex):Ex->Ex
 |.mk op n v nm nl args=>if inC l n v nm args.length then E9 (l.getD n.toNat A7D) else .mk op n v nm nl args
theorem C04(x:Ex):Pure Tryz.prog A6U [x.av] (id x).av:=by
 obtain⟨op,n,v,nm,nl,args⟩:=x
 show Pure Tryz.prog _ _ (Ex.mk op n v nm nl args).av
 rw[Ex.av_mk]
 refine C30.go A6 rfl ?_
 repeat' first|refine st ?_|(with_reducible first|apply A5|apply A4)<;>intro _
 all_goals rfl
theorem C03(l:List Ex)(hl:l.length<=1048576)(hlb:∀a∈l,a.bk<=1048576)(dl:D)(hdl:B5 dl (xL l))(x:Ex):B4 Tryz.prog A6T [x.av,.ptr 0 0] [.cells [.d dl]] (λr os=>r=(A2A l x).av/\os=[.cells [.d dl]]):=by
 obtain⟨op,n,v,nm,nl,args⟩:=x
 obtain⟨Z,hZ⟩:∃Z,Z=(A2A l (.mk op n v nm nl args)).av:=⟨_,rfl⟩
 rw[<- hZ]
 rw[A2A] at hZ
 rw[Ex.av_mk]
 have h1:=I3 args
 have hm:=N5 args
 have h2:=I3 l
 have hm2:=N5 l
 obtain⟨da,hda⟩:∃d,d=ng nl (xL args):=⟨_,rfl⟩
 have hsd:B5 da (xL args):=by rw[hda];exact i5
 cases hc:inC l n v nm args.length with
 |true=>
  rw[hc,if_pos rfl] at hZ
  obtain⟨c1,c2,⟨c3,c4,c5⟩,c6,c7⟩:=of_decide_eq_true hc
  obtain⟨m,rfl⟩:∃m:Nat,n=m:=⟨n.toNat,by omega⟩
  have hlm:m<l.length:=by omega
  have hx:l[m]?=some l[m]:=C9 hlm
  have hgd:l.getD (m:Int).toNat A7D=l[m]:=by rw[S6,G9,hx];rfl
  rw[hgd] at hZ
  have hM:=C0W A6U id C04 l[m] (hlb _ (A0X _))
  have hg:=m4 hx
  obtain⟨y,hy⟩:∃y,y=l[m]:=⟨_,rfl⟩
  rw[<- hy] at hM hg hZ
  unfold E9 at hZ
  obtain⟨z,hz⟩:∃z,z=O4 id y:=⟨_,rfl⟩
  rw[<- hz] at hM hZ
  obtain⟨o1,n1,v1,m1,l1,a1⟩:=y
  obtain⟨o2,n2,v2,m2,l2,a2⟩:=z
  rw[Ex.ds_mk] at hg
  rw[Ex.av_mk,Ex.av_mk] at hM
  rw[Ex.av_mk] at hZ
  rw[hZ,<- hda]
  clear hda
  subst c2
  refine B1A.goX A6 rfl ?_
  repeat' first|refine st ?_|((with_reducible first|apply A8|apply A7);(·exact hM))|(with_reducible first|apply A5|apply A4)<;>intro _
  all_goals exact⟨rfl,rfl⟩
 |false=>
  rw[hc,if_neg (by decide),Ex.av_mk,<- hda] at hZ
  rw[hZ,<- hda]
  have hno:¬(args.length=0/\nm=[]/\(v.k=0/\v.n=0/\v.s=[])/\0<=n/\n<l.length):=of_decide_eq_false hc
  clear hda hZ hc
  refine B1A.goX A6 rfl ?_
  by_cases g1:args.length=0
  rotate_left
  ·repeat' first|refine st ?_|(with_reducible first|apply A5|apply A4)<;>intro _
   all_goals exact⟨rfl,rfl⟩
  by_cases g2:nm=[]
  rotate_left
  ·repeat' first|refine st ?_|(with_reducible first|apply A5|apply A4)<;>intro _
   all_goals exact⟨rfl,rfl⟩
  subst g2
  by_cases g3:v.k=0/\v.n=0/\v.s=[]
  rotate_left
  ·repeat' first|refine st ?_|(with_reducible first|apply A5|apply A4)<;>intro _
   all_goals first|exact⟨rfl,rfl⟩|(exfalso;simp_all;done)
  obtain⟨g4,g5,g6⟩:=g3
  by_cases g7:0<=n
  ·by_cases g8:n<l.length
   ·exact absurd ⟨g1,rfl,⟨g4,g5,g6⟩,g7,g8⟩ hno
   ·repeat' first|refine st ?_|(with_reducible first|apply A5|apply A4)<;>intro _
    all_goals exact⟨rfl,rfl⟩
  ·repeat' first|refine st ?_|(with_reducible first|apply A5|apply A4)<;>intro _
   all_goals exact⟨rfl,rfl⟩
def E4(l:List Ex)(e:Ex):Ex:=O4 (A2A l) e
theorem A4r(l:List Ex)(hl:l.length<=1048576)(hlb:∀a∈l,a.bk<=1048576)(dl:D)(hdl:B5 dl (xL l))(e:Ex)(he:e.bk<=1048576):Pure Tryz.prog B5g [e.av,.d dl] (E4 l e).av:=by
 have hM:=B0V A6T dl (A2A l) (C03 l hl hlb dl hdl) e he
 have hL:∀os:List AO,os[1]?=some (.cells [.d dl])->B4 Tryz.prog A2N [e.av,.clo A6T [1]] os (λr' os'=>r'=(O4 (A2A l) e).av/\os'=os.set 1 (.cells [.d dl])):=λos ho=>B00 (id:=1) hM (λf=>A7x f _) ho
 unfold E4
 obtain⟨z,hz⟩:∃z,z=O4 (A2A l) e:=⟨_,rfl⟩
 rw[<- hz] at hL ⊢
 obtain⟨o1,n1,v1,m1,l1,a1⟩:=e
 obtain⟨o2,n2,v2,m2,l2,a2⟩:=z
 simp only[Ex.av_mk] at hL ⊢
 refine C2Z.go A6 rfl ?_
 repeat' first|refine st ?_|((with_reducible first|apply I7|apply D8);(·exact hL _ rfl);(try rintro _ _ ⟨rfl,rfl⟩))|((with_reducible apply J4);(·exact hL _ rfl))|((with_reducible apply I5);refine st ?_;(with_reducible apply J2);(·exact rfl);refine st ?_;(with_reducible apply D8);(·exact hL _ rfl);(try rintro _ _ ⟨rfl,rfl⟩))|(with_reducible first|apply A5|apply A4)<;>intro _
 all_goals rfl
theorem A9L(n:Int)(v:Vl)(nm:List UInt8)(k:Nat):M8 2 n v nm k=decide (k=0/\nm=[]/\(v.k=0/\v.n=0/\v.s=[])):=by
 have hc:(S4 2 k).1=decide ((k:Int)=0):=rfl
 unfold M8
 rw[hc,if_neg (by decide),if_neg (by decide),if_pos rfl,A3f,A08]
 simp only[O9,decide_eq_true_eq]
 constructor
 ·rintro⟨⟨h1,h2⟩,h3⟩;exact⟨by omega,h2,h3⟩
 ·rintro⟨h1,h2,h3⟩;exact⟨⟨by omega,h2⟩,h3⟩
def B0(a b:Int):Int:=if b<a then a-1 else a
theorem W2(a b:Int)(ha:-4611686018427387904<=a)(hb:a<=4611686018427387904):Pure Tryz.prog B59 [.d (eI a),.d (eI b)] (.d (eI (B0 a b))):=by
 unfold B0
 by_cases h:b<a
 ·rw[if_pos h]
  refine B1y.go A6 rfl ?_
  repeat' first|refine st ?_|(with_reducible first|apply A5|apply A4)<;>intro _
  all_goals rfl
 ·rw[if_neg h]
  refine B1y.go A6 rfl ?_
  repeat' first|refine st ?_|(with_reducible first|apply A5|apply A4)<;>intro _
  all_goals rfl
def mvE(k i:Int):Ex:=.mk 2 (B0 k i) ⟨0,0,[]⟩ [] true []
def I0(m i:Nat):List Ex:=(List.range m).map λ(k:Nat)=>mvE (k:Int) (i:Int)
theorem A0Q(m i:Nat):(I0 m i).length=m:=by simp[I0]
theorem A5T(m i:Nat):xL (I0 m i)++[[.int .i64 2,eI (B0 m i),.int .i64 0,.int .i64 0,.str [],.str [],.nil]]=xL (I0 (m+1) i):=by
 unfold I0
 rw[List.range_succ,s7]
 simp only[xL,s7,Q4,List.map_nil,List.append_cancel_left_eq]
 unfold mvE
 rw[Ex.ds_mk]
 rfl
def D6(ks:List Int)(f:Int->Int)(k:Nat):List Int:=(ks.take k).map f++ks.drop k
theorem o5(ks:List Int)(f:Int->Int)(k:Nat)(h:k<=ks.length):(D6 ks f k).length=ks.length:=by
 unfold D6
 simp
 omega
theorem o4{ks:List Int}(f:Int->Int){k:Nat}{c:Int}(h:ks[k]?=some c):(D6 ks f k)[k]?=some c:=by
 have hlt:=(B2.1 h).1
 unfold D6
 rw[R6 (by simp;omega),D0,N6,Nat.min_eq_left (by omega),Nat.sub_self,A27]
 exact h
theorem o6{ks:List Int}(f:Int->Int){k:Nat}{c:Int}(h:ks[k]?=some c):(D6 ks f k).set k (f c)=D6 ks f (k+1):=by
 obtain⟨hlt,he⟩:=B2.1 h
 unfold D6
 rw[List.set_append_right _ _ (by simp;omega),D0,N6,Nat.min_eq_left (by omega),Nat.sub_self,V5 hlt,he,List.set_cons_zero,P5,h]
 simp
theorem o7(ks:List Int)(f:Int->Int):D6 ks f 0=ks:=by simp[D6]
theorem o3(ks:List Int)(f:Int->Int):D6 ks f ks.length=ks.map f:=by simp[D6]
theorem m8(l:List Int)(k:Nat)(y:Int):(A0 l).set k [eI y]=A0 (l.set k y):=by
 unfold A0
 rw[W4]
def L6(xs:List Ex)(f:Ex->Ex)(k:Nat):List Ex:=(xs.take k).map f++xs.drop k
theorem A5P(xs:List Ex)(f:Ex->Ex)(k:Nat)(h:k<=xs.length):(L6 xs f k).length=xs.length:=by
 unfold L6
 simp
 omega
theorem A5O{xs:List Ex}(f:Ex->Ex){k:Nat}{c:Ex}(h:xs[k]?=some c):(L6 xs f k)[k]?=some c:=by
 have hlt:=(B2.1 h).1
 unfold L6
 rw[R6 (by simp;omega),D0,N6,Nat.min_eq_left (by omega),Nat.sub_self,A27]
 exact h
theorem A5Q{xs:List Ex}(f:Ex->Ex){k:Nat}{c:Ex}(h:xs[k]?=some c):(L6 xs f k).set k (f c)=L6 xs f (k+1):=by
 obtain⟨hlt,he⟩:=B2.1 h
 unfold L6
 rw[List.set_append_right _ _ (by simp;omega),D0,N6,Nat.min_eq_left (by omega),Nat.sub_self,V5 hlt,he,List.set_cons_zero,P5,h]
 simp
theorem A5R(xs:List Ex)(f:Ex->Ex):L6 xs f 0=xs:=by simp[L6]
theorem A5N(xs:List Ex)(f:Ex->Ex):L6 xs f xs.length=xs.map f:=by simp[L6]
theorem C0w(nm:List UInt8)(es:List (List D))(hm:∀e∈es,e.length=3)(i:Nat)(hi:i<es.length)(hel:es.length<=1048576)(ks:List Int)(hkb:∀k∈ks,0<=k/\k<=1048576)(hkl:ks.length<=1048576)(kn:Bool)(hkn:kn=true->ks=[])(xs:List Ex)(hxl:xs.length<=1048576)(hxb:∀e∈xs,e.bk<=1048576)(xn:Bool)(hxn:xn=true->xs=[]) :
  B4 Tryz.prog A0z [.ptr 0 0,.d (eI i)] [.cells [.d (.str nm),.arr 1 es.length,.arr 2 (A0 ks).length,.rs 3 0,.arr 4 (xL xs).length],.arr es 3 0 false,.arr (A0 ks) 1 0 kn,.rarr [] 2 true,.arr (xL xs) 7 0 xn]
   (λr os=>r=.tup []/\os=[.cells [.d (.str nm),.d (.sl (es.eraseIdx i)),.arr 2 (A0 ks).length,.rs 3 0,.arr 4 (xL xs).length],.arr (es.eraseIdx i++[M3]) 3 (es.length-1) false,.arr (A0 (ks.map λc=>B0 c i)) 1 0 kn,.rarr [] 2 true,.arr (xL (xs.map (E4 (I0 es.length i)))) 7 0 xn]):=by
 have hD:=fun {os:List AO} (ho:os[1]?=some (.arr es 3 0 false))=>A4x es hm i hi ho
 obtain⟨m,hmm⟩:∃m,m=es.length:=⟨_,rfl⟩
 refine A4F.goX A6 rfl ?_
 repeat' first|refine st ?_|(with_reducible first|apply A5|apply A4)<;>intro _
 refine s0 4 7 rfl rfl ?_
 repeat' first|refine st ?_|(with_reducible first|apply A5|apply A4)<;>intro _
 refine I8 A6 A4P A4K (λ(k:Nat) (A:List (List D))=>[.arr 5 A.length,.d (eI k)]) (λk A=>[.cells [.d (.str nm),.arr 1 es.length,.arr 2 (A0 ks).length,.rs 3 0,.arr 4 (xL xs).length],.arr es 3 0 false,.arr (A0 ks) 1 0 kn,.rarr [] 2 true,.arr (xL xs) 7 0 xn,.arr A 7 0 A.isEmpty]) (λk A=>k<=es.length/\A=xL (I0 k i)) (λk A=>es.length-k) 0 [] rfl rfl rfl rfl (λ_ _ _=>⟨rfl,rfl⟩) rfl ⟨by omega,by simp[I0,xL]⟩ ?_
 repeat' first|refine st ?_|(with_reducible first|apply A5|apply A4)<;>intro _
 intro k A ⟨h4,h5⟩
 have hAl:A.length=k:=by rw[h5,I3,A0Q]
 have hAm:∀e∈A,e.length=7:=by rw[h5];exact N5 _
 by_cases hlt:k<es.length
 ·have hB:=W2 k i (by omega) (by omega)
  have hs:=A5T k i
  rw[<- h5] at hs
  obtain⟨b,hb⟩:∃b,b=B0 k i:=⟨_,rfl⟩
  rw[<- hb] at hB hs
  clear h5
  repeat' first|refine st ?_|((with_reducible first|apply A8|apply A7);(·exact hB))|(with_reducible first|apply A5|apply A4)<;>intro _
  refine⟨k+1,A++[[.int .i64 2,eI b,.int .i64 0,.int .i64 0,.str [],.str [],.nil]],?_,rfl,?_,by omega,by omega,hs⟩
  ·rfl
  ·rw[show(A++[[.int .i64 2,eI b,.int .i64 0,.int .i64 0,.str [],.str [],.nil]]).isEmpty=false by simp]
   first|rfl|skip
 ·have hke:k=es.length:=by omega
  rw[hke] at h5
  have hDc:=hD (os:=[.cells [.d (.str nm),.arr 1 es.length,.arr 2 (A0 ks).length,.rs 3 0,.arr 4 (xL xs).length],.arr es 3 0 false,.arr (A0 ks) 1 0 kn,.rarr [] 2 true,.arr (xL xs) 7 0 xn,.arr A 7 0 A.isEmpty]) rfl
  obtain⟨es',hes'⟩:∃e,e=es.eraseIdx i:=⟨_,rfl⟩
  rw[<- hes'] at hDc ⊢
  obtain⟨M0,hM0⟩:∃L,L=I0 es.length i:=⟨_,rfl⟩
  have hMl:M0.length<=1048576:=by rw[hM0,A0Q];exact hel
  rw[<- hM0] at h5 ⊢
  repeat' first|(with_reducible apply I5)|refine st ?_|((with_reducible first|apply I7|apply D8);(·exact hDc);(try rintro _ _ ⟨rfl,rfl⟩))|((with_reducible apply J4);(·exact hDc))|((with_reducible apply I5);refine st ?_;(with_reducible apply J2);(·exact rfl);refine st ?_;(with_reducible apply D8);(·exact hDc);(try rintro _ _ ⟨rfl,rfl⟩))|(with_reducible first|apply A5|apply A4)<;>intro _
  refine F3 A6 A4Q A4L (λ(j:Nat)=>[.d (eI j)]) (λj=>[.cells [.d (.str nm),.d (.sl es'),.arr 2 (A0 ks).length,.rs 3 0,.arr 4 (xL xs).length],.arr (es'++[M3]) 3 (es.length-1) false,.arr (A0 (D6 ks (λc=>B0 c i) j)) 1 0 kn,.rarr [] 2 true,.arr (xL xs) 7 0 xn,.arr A 7 0 A.isEmpty]) (λj=>j<=ks.length) (λj=>ks.length-j) 0 rfl rfl rfl (by rw[o7];rfl) (λ_ _=>⟨rfl,rfl⟩) rfl (by omega) ?_
  repeat' first|refine st ?_|(with_reducible first|apply A5|apply A4)<;>intro _
  intro j h6
  have hKl:=o5 ks (λc=>B0 c i) j h6
  cases hy:ks[j]? with
  |some c=>
   obtain⟨hlt2,he2⟩:=B2.1 hy
   have hkf:kn=false:=by
    cases kn with
    |false=>rfl
    |true=>rw[hkn rfl] at hlt2;simp at hlt2
   subst hkf
   have hg:=J9 (o4 (λc=>B0 c i) hy)
   have hset:=o6 (λc=>B0 c i) hy
   obtain⟨cb1,cb2⟩:=hkb c (C2 hy)
   have hB:=W2 c i (by omega) (by omega)
   have hks:=B6 ks
   obtain⟨y,hyy⟩:∃y,y=B0 c i:=⟨_,rfl⟩
   rw[<- hyy] at hB hset
   have hset2:(A0 (D6 ks (λc=>B0 c i) j)).set j [eI y]=A0 (D6 ks (λc=>B0 c i) (j+1)):=by rw[m8,hset]
   have hml:=B6 (D6 ks (λc=>B0 c i) j)
   have hmm2:=D2 (D6 ks (λc=>B0 c i) j)
   obtain⟨X,hX⟩:∃X,X=A0 (D6 ks (λc=>B0 c i) j):=⟨_,rfl⟩
   rw[<- hX] at hg hset2 hml hmm2 ⊢
   repeat' first|refine st ?_|((with_reducible first|apply A8|apply A7);(·exact hB))|(with_reducible first|apply A5|apply A4)<;>intro _
   refine⟨j+1,rfl,rfl,?_,by omega,by omega⟩
   rw[show((j:Int)).toNat=j from S6 j,hset2]
  |none=>
   have hge:=D1.1 hy
   have hjk:j=ks.length:=by omega
   subst hjk
   rw[o3]
   have hks:=B6 ks
   obtain⟨K',hK'⟩:∃K,K=A0 (ks.map λc=>B0 c i):=⟨_,rfl⟩
   rw[<- hK']
   repeat' first|refine st ?_|(with_reducible first|apply A5|apply A4)<;>intro _
   refine A1z 1 ?_
   refine P4 A6 ?_
   repeat' first|refine st ?_|(with_reducible first|apply A5|apply A4)<;>intro _
   have hAe:A.isEmpty=false:=by cases A with
    |nil=>simp at hAl;omega
    |cons a l=>rfl
   rw[hAe]
   have hXl:=I3 xs
   refine A2D 4 (id:=5) (len:=A.length) (sz:=7) (frz:=0) (nl:=false) (es:=A) rfl rfl rfl ?_
   rw[if_neg (by decide:¬(false=true))]
   repeat' first|refine st ?_|(with_reducible first|apply A5|apply A4)<;>intro _
   refine F3 A6 A4R A4M (λ(q:Nat)=>[.d (eI q)]) (λq=>[.cells [.d (.str nm),.d (.sl es'),.arr 2 (A0 ks).length,.rs 3 0,.arr 4 (xL xs).length],.arr (es'++[M3]) 3 (es.length-1) false,.arr K' 1 0 kn,.rarr [] 2 true,.arr (xL (L6 xs (E4 M0) q)) 7 0 xn,.arr A 7 A.length false]) (λq=>q<=xs.length) (λq=>xs.length-q) 0 rfl rfl rfl (by rw[A5R];rfl) (λ_ _=>⟨rfl,rfl⟩) rfl (by omega) ?_
   repeat' first|refine st ?_|(with_reducible first|apply A5|apply A4)<;>intro _
   intro q h7
   have hMb:∀a∈M0,a.bk<=1048576:=by
    intro a ha
    rw[hM0] at ha
    obtain⟨b,_,rfl⟩:=F2.1 ha
    unfold mvE Ex.bk
    rw[Ex.ds_mk]
    exact P2 rfl
   have hXql:=A5P xs (E4 M0) q h7
   cases hx:xs[q]? with
   |some x=>
    obtain⟨hlt3,he3⟩:=B2.1 hx
    have hxf:xn=false:=by
     cases xn with
     |false=>rfl
     |true=>rw[hxn rfl] at hlt3;simp at hlt3
    subst hxf
    have hg:=A5O (E4 M0) hx
    have hset:=A5Q (E4 M0) hx
    have hS:=A4r M0 hMl hMb (.sl A) (by rw[h5];exact L4) x (hxb x (C2 hx))
    have hq1:=I3 (L6 xs (E4 M0) q)
    have hq2:=N5 (L6 xs (E4 M0) q)
    obtain⟨z,hz⟩:∃z,z=E4 M0 x:=⟨_,rfl⟩
    rw[<- hz] at hS hset
    have hset2:(xL (L6 xs (E4 M0) q)).set q z.ds=xL (L6 xs (E4 M0) (q+1)):=by rw[<- hset];unfold xL;rw[W4]
    obtain⟨o1,n1,v1,m1,l1,a1⟩:=x
    obtain⟨o2,n2,v2,m2,l2,a2⟩:=z
    have hg:=m5 _ _ _ _ _ _ _ hg
    rw[Ex.av_mk,Ex.av_mk] at hS
    rw[Ex.ds_mk] at hset2
    obtain⟨X,hX⟩:∃X,X=xL (L6 xs (E4 M0) q):=⟨_,rfl⟩
    rw[<- hX] at hg hset2 hq1 hq2 ⊢
    repeat' first|refine st ?_|((with_reducible first|apply A8|apply A7);(·exact hS))|(with_reducible first|apply A5|apply A4)<;>intro _
    refine⟨q+1,rfl,rfl,?_,by omega,by omega⟩
    rw[show((q:Int)).toNat=q from S6 q,hset2]
   |none=>
    have hge:=D1.1 hx
    have hqk:q=xs.length:=by omega
    subst hqk
    rw[A5N]
    repeat' first|refine st ?_|(with_reducible first|apply A5|apply A4)<;>intro _
    exact⟨rfl,rfl⟩
theorem A4l(nm:List UInt8)(dc dk df dx:D)(Cs Ks:List (List D))(cn kn:Bool)(hC:B4 Tryz.prog A2O [.d dc] [] (λr os=>r=.arr 0 Cs.length/\os=[.arr Cs 3 0 cn]))(hK:B4 Tryz.prog W5 [.d dk] [] (λr os=>r=.arr 0 Ks.length/\os=[.arr Ks 1 0 kn]))
  (hd:B5 df []) (l:List Ex) (hb:∀x∈l,x.bk<=1048576) (hl:l.length<=1048576) (hdx:B5 dx (xL l)) :
  B4 Tryz.prog A1I [eT nm dc dk df dx] [] (λr os=>r=.agg (oB nm Cs.length Ks.length 0 (xL (l.map (B8 0))).length)/\os=b9 [.d (.str nm),.d dc,.d dk,.d df,.d dx] (oB nm Cs.length Ks.length 0 (xL (l.map (B8 0))).length) nm Cs Ks cn kn [] (xL (l.map (B8 0))) (xL (l.map (B8 0))).isEmpty):=by
 have h1:=I3 l
 have hm:=N5 l
 have hg0:=m5 (args:=l)
 obtain⟨R,hR⟩:∃R,R=xL (l.map (B8 0)):=⟨_,rfl⟩
 rw[<- hR]
 obtain⟨es,hes⟩:∃es,es=xL l:=⟨_,rfl⟩
 rw[<- hes] at h1 hm hdx hg0
 refine A4G.goO A6 rfl ?_
 repeat' first|refine st ?_|((with_reducible apply V8);(·first|exact hC|exact hK))|(with_reducible first|apply A5|apply A4)<;>intro _
 refine A6p 4 3 2 rfl rfl rfl ?_
 refine A6o 4 4 7 rfl rfl rfl ?_
 refine A1z 1 ?_
 refine P4 A6 ?_
 repeat' first|refine st ?_|((with_reducible apply V8);(·first|exact hC|exact hK))|(with_reducible first|apply A5|apply A4)<;>intro _
 refine A6q [2,3,37,38,39] [.ptr 1 0,.ptr 4 0,.d dx,.d (.int .i64 es.length),.d (eI 0)] [0,1,2,3,4,5,6] (b9 [.d (.str nm),.d dc,.d dk,.d df,.d dx] [.d (.str []),.d .nil,.d .nil,.d .nil,.d .nil] nm Cs Ks cn kn [] [] true) rfl rfl (by decide) rfl rfl rfl rfl rfl ?_
 refine I8 A6 A4S A4N (λ(i:Nat) (w:List (List D)×Bool)=>[.d (eI i)]) (λi w=>b9 [.d (.str nm),.d dc,.d dk,.d df,.d dx] [.d (.str []),.d .nil,.d .nil,.d .nil,.d .nil] nm Cs Ks cn kn [] w.1 w.2) (λi w=>i<=l.length/\w.1=Mt (B8 0) l i/\w.2=w.1.isEmpty) (λi w=>l.length-i) 0 ([],true) rfl rfl rfl rfl (λ_ _ _=>⟨rfl,rfl⟩) rfl ⟨by omega,rfl,rfl⟩ ?_
 repeat' first|refine st ?_|(with_reducible first|apply A5|apply A4)<;>intro _
 intro i w ⟨h4,h5,h6⟩
 obtain⟨A,b⟩:=w
 dsimp only at h5 h6 ⊢
 have hAl:A.length=i:=by rw[h5];exact x5 _ l i (by omega)
 have hAm:∀e∈A,e.length=7:=by rw[h5];exact x6 _ _ _
 cases hx:l[i]? with
 |some x=>
  have hlt:=(B2.1 hx).1
  have hs:=x7 (φ:=B8 0) hx
  have hS:=A4q x (hb x (C2 hx)) 0
  rw[<- h5] at hs
  obtain⟨z,hz⟩:∃z,z=B8 0 x:=⟨_,rfl⟩
  rw[<- hz] at hs hS
  obtain⟨o1,n1,v1,m1,l1,a1⟩:=x
  obtain⟨o2,n2,v2,m2,l2,a2⟩:=z
  have hg:=hg0 _ _ _ _ _ _ _ hx
  rw[Ex.ds_mk] at hs
  rw[Ex.av_mk,Ex.av_mk] at hS
  repeat' first|refine st ?_|((with_reducible first|apply A8|apply A7);(·exact hS))|(with_reducible first|apply A5|apply A4)<;>intro _
  exact⟨i+1,(A++[V2 o2 n2 v2 m2 (ng l2 (xL a2))],false),rfl,rfl,rfl,by omega,by omega,hs,by simp⟩
 |none=>
  have hge:=D1.1 hx
  rw[x4 hge,<- hR] at h5
  subst h5
  subst h6
  repeat' first|refine st ?_|(with_reducible first|apply A5|apply A4)<;>intro _
  all_goals exact⟨rfl,rfl⟩
theorem A4m(nm:List UInt8)(dc dk df dx:D)(Cs Ks:List (List D))(cn kn:Bool)(hC:B4 Tryz.prog A2O [.d dc] [] (λr os=>r=.arr 0 Cs.length/\os=[.arr Cs 3 0 cn]))(hK:B4 Tryz.prog W5 [.d dk] [] (λr os=>r=.arr 0 Ks.length/\os=[.arr Ks 1 0 kn]))
  (f0:Fi) (hf0:f0.ok) (hd:df=.sl (R4 [f0])) (l:List Ex) (hb:∀x∈l,x.bk<=1048576) (hl:l.length<=1048576) (hdx:B5 dx (xL l)) :
  B4 Tryz.prog A1I [eT nm dc dk df dx] [] (λr os=>r=.agg (oB nm Cs.length Ks.length 1 (xL (l.map (B8 0))).length)/\os=b9 [.d (.str nm),.d dc,.d dk,.d df,.d dx] (oB nm Cs.length Ks.length 1 (xL (l.map (B8 0))).length) nm Cs Ks cn kn [f0] (xL (l.map (B8 0))) (xL (l.map (B8 0))).isEmpty):=by
 have h1:=I3 l
 have hm:=N5 l
 have hg0:=m5 (args:=l)
 obtain⟨R,hR⟩:∃R,R=xL (l.map (B8 0)):=⟨_,rfl⟩
 rw[<- hR]
 obtain⟨es,hes⟩:∃es,es=xL l:=⟨_,rfl⟩
 rw[<- hes] at h1 hm hdx hg0
 subst hd
 obtain⟨fd0,fe0,fn0,ft0⟩:=f0
 have hf0:B4 Tryz.prog W5 [.d fd0] [] (λr os=>r=.arr 0 fe0.length/\os=[.arr fe0 1 0 fn0]):=hf0
 rw[show R4 [⟨fd0,fe0,fn0,ft0⟩]=[[fd0,.str ft0]] from rfl]
 refine A4G.goO A6 rfl ?_
 repeat' first|refine st ?_|((with_reducible apply V8);(·first|exact hC|exact hK|exact hf0))|(with_reducible first|apply A5|apply A4)<;>intro _
 refine A6p 4 3 2 rfl rfl rfl ?_
 refine A6o 4 4 7 rfl rfl rfl ?_
 refine A1z 2 ?_
 refine P4 A6 ?_
 repeat' first|refine st ?_|((with_reducible apply V8);(·first|exact hC|exact hK|exact hf0))|(with_reducible first|apply A5|apply A4)<;>intro _
 refine P4 A6 ?_
 repeat' first|refine st ?_|((with_reducible apply V8);(·first|exact hC|exact hK|exact hf0))|(with_reducible first|apply A5|apply A4)<;>intro _
 refine A6q [2,3,37,38,39] [.ptr 1 0,.ptr 4 0,.d dx,.d (.int .i64 es.length),.d (eI 0)] [0,1,2,3,4,5,6,8] (b9 [.d (.str nm),.d dc,.d dk,.d (.sl [[fd0,.str ft0]]),.d dx] [.d (.str []),.d .nil,.d .nil,.d .nil,.d .nil] nm Cs Ks cn kn [⟨fd0,fe0,fn0,ft0⟩] [] true) rfl rfl (by decide) rfl rfl rfl rfl rfl ?_
 refine I8 A6 A4S A4N (λ(i:Nat) (w:List (List D)×Bool)=>[.d (eI i)]) (λi w=>b9 [.d (.str nm),.d dc,.d dk,.d (.sl [[fd0,.str ft0]]),.d dx] [.d (.str []),.d .nil,.d .nil,.d .nil,.d .nil] nm Cs Ks cn kn [⟨fd0,fe0,fn0,ft0⟩] w.1 w.2) (λi w=>i<=l.length/\w.1=Mt (B8 0) l i/\w.2=w.1.isEmpty) (λi w=>l.length-i) 0 ([],true) rfl rfl rfl rfl (λ_ _ _=>⟨rfl,rfl⟩) rfl ⟨by omega,rfl,rfl⟩ ?_
 repeat' first|refine st ?_|(with_reducible first|apply A5|apply A4)<;>intro _
 intro i w ⟨h4,h5,h6⟩
 obtain⟨A,b⟩:=w
 dsimp only at h5 h6 ⊢
 have hAl:A.length=i:=by rw[h5];exact x5 _ l i (by omega)
 have hAm:∀e∈A,e.length=7:=by rw[h5];exact x6 _ _ _
 cases hx:l[i]? with
 |some x=>
  have hlt:=(B2.1 hx).1
  have hs:=x7 (φ:=B8 0) hx
  have hS:=A4q x (hb x (C2 hx)) 0
  rw[<- h5] at hs
  obtain⟨z,hz⟩:∃z,z=B8 0 x:=⟨_,rfl⟩
  rw[<- hz] at hs hS
  obtain⟨o1,n1,v1,m1,l1,a1⟩:=x
  obtain⟨o2,n2,v2,m2,l2,a2⟩:=z
  have hg:=hg0 _ _ _ _ _ _ _ hx
  rw[Ex.ds_mk] at hs
  rw[Ex.av_mk,Ex.av_mk] at hS
  repeat' first|refine st ?_|((with_reducible first|apply A8|apply A7);(·exact hS))|(with_reducible first|apply A5|apply A4)<;>intro _
  exact⟨i+1,(A++[V2 o2 n2 v2 m2 (ng l2 (xL a2))],false),rfl,rfl,rfl,by omega,by omega,hs,by simp⟩
 |none=>
  have hge:=D1.1 hx
  rw[x4 hge,<- hR] at h5
  subst h5
  subst h6
  repeat' first|refine st ?_|(with_reducible first|apply A5|apply A4)<;>intro _
  all_goals exact⟨rfl,rfl⟩
theorem A4n(nm:List UInt8)(dc dk df dx:D)(Cs Ks:List (List D))(cn kn:Bool)(hC:B4 Tryz.prog A2O [.d dc] [] (λr os=>r=.arr 0 Cs.length/\os=[.arr Cs 3 0 cn]))(hK:B4 Tryz.prog W5 [.d dk] [] (λr os=>r=.arr 0 Ks.length/\os=[.arr Ks 1 0 kn]))
  (f0 f1:Fi) (hf0:f0.ok) (hf1:f1.ok) (hd:df=.sl (R4 [f0,f1])) (l:List Ex) (hb:∀x∈l,x.bk<=1048576) (hl:l.length<=1048576) (hdx:B5 dx (xL l)) :
  B4 Tryz.prog A1I [eT nm dc dk df dx] [] (λr os=>r=.agg (oB nm Cs.length Ks.length 2 (xL (l.map (B8 0))).length)/\os=b9 [.d (.str nm),.d dc,.d dk,.d df,.d dx] (oB nm Cs.length Ks.length 2 (xL (l.map (B8 0))).length) nm Cs Ks cn kn [f0,f1] (xL (l.map (B8 0))) (xL (l.map (B8 0))).isEmpty):=by
 have h1:=I3 l
 have hm:=N5 l
 have hg0:=m5 (args:=l)
 obtain⟨R,hR⟩:∃R,R=xL (l.map (B8 0)):=⟨_,rfl⟩
 rw[<- hR]
 obtain⟨es,hes⟩:∃es,es=xL l:=⟨_,rfl⟩
 rw[<- hes] at h1 hm hdx hg0
 subst hd
 obtain⟨fd0,fe0,fn0,ft0⟩:=f0
 have hf0:B4 Tryz.prog W5 [.d fd0] [] (λr os=>r=.arr 0 fe0.length/\os=[.arr fe0 1 0 fn0]):=hf0
 obtain⟨fd1,fe1,fn1,ft1⟩:=f1
 have hf1:B4 Tryz.prog W5 [.d fd1] [] (λr os=>r=.arr 0 fe1.length/\os=[.arr fe1 1 0 fn1]):=hf1
 rw[show R4 [⟨fd0,fe0,fn0,ft0⟩,⟨fd1,fe1,fn1,ft1⟩]=[[fd0,.str ft0],[fd1,.str ft1]] from rfl]
 refine A4G.goO A6 rfl ?_
 repeat' first|refine st ?_|((with_reducible apply V8);(·first|exact hC|exact hK|exact hf0|exact hf1))|(with_reducible first|apply A5|apply A4)<;>intro _
 refine A6p 4 3 2 rfl rfl rfl ?_
 refine A6o 4 4 7 rfl rfl rfl ?_
 refine A1z 3 ?_
 refine P4 A6 ?_
 repeat' first|refine st ?_|((with_reducible apply V8);(·first|exact hC|exact hK|exact hf0|exact hf1))|(with_reducible first|apply A5|apply A4)<;>intro _
 refine P4 A6 ?_
 repeat' first|refine st ?_|((with_reducible apply V8);(·first|exact hC|exact hK|exact hf0|exact hf1))|(with_reducible first|apply A5|apply A4)<;>intro _
 refine P4 A6 ?_
 repeat' first|refine st ?_|((with_reducible apply V8);(·first|exact hC|exact hK|exact hf0|exact hf1))|(with_reducible first|apply A5|apply A4)<;>intro _
 refine A6q [2,3,37,38,39] [.ptr 1 0,.ptr 4 0,.d dx,.d (.int .i64 es.length),.d (eI 0)] [0,1,2,3,4,5,6,8,11] (b9 [.d (.str nm),.d dc,.d dk,.d (.sl [[fd0,.str ft0],[fd1,.str ft1]]),.d dx] [.d (.str []),.d .nil,.d .nil,.d .nil,.d .nil] nm Cs Ks cn kn [⟨fd0,fe0,fn0,ft0⟩,⟨fd1,fe1,fn1,ft1⟩] [] true) rfl rfl (by decide) rfl rfl rfl rfl rfl ?_
 refine I8 A6 A4S A4N (λ(i:Nat) (w:List (List D)×Bool)=>[.d (eI i)]) (λi w=>b9 [.d (.str nm),.d dc,.d dk,.d (.sl [[fd0,.str ft0],[fd1,.str ft1]]),.d dx] [.d (.str []),.d .nil,.d .nil,.d .nil,.d .nil] nm Cs Ks cn kn [⟨fd0,fe0,fn0,ft0⟩,⟨fd1,fe1,fn1,ft1⟩] w.1 w.2) (λi w=>i<=l.length/\w.1=Mt (B8 0) l i/\w.2=w.1.isEmpty) (λi w=>l.length-i) 0 ([],true) rfl rfl rfl rfl (λ_ _ _=>⟨rfl,rfl⟩) rfl ⟨by omega,rfl,rfl⟩ ?_
 repeat' first|refine st ?_|(with_reducible first|apply A5|apply A4)<;>intro _
 intro i w ⟨h4,h5,h6⟩
 obtain⟨A,b⟩:=w
 dsimp only at h5 h6 ⊢
 have hAl:A.length=i:=by rw[h5];exact x5 _ l i (by omega)
 have hAm:∀e∈A,e.length=7:=by rw[h5];exact x6 _ _ _
 cases hx:l[i]? with
 |some x=>
  have hlt:=(B2.1 hx).1
  have hs:=x7 (φ:=B8 0) hx
  have hS:=A4q x (hb x (C2 hx)) 0
  rw[<- h5] at hs
  obtain⟨z,hz⟩:∃z,z=B8 0 x:=⟨_,rfl⟩
  rw[<- hz] at hs hS
  obtain⟨o1,n1,v1,m1,l1,a1⟩:=x
  obtain⟨o2,n2,v2,m2,l2,a2⟩:=z
  have hg:=hg0 _ _ _ _ _ _ _ hx
  rw[Ex.ds_mk] at hs
  rw[Ex.av_mk,Ex.av_mk] at hS
  repeat' first|refine st ?_|((with_reducible first|apply A8|apply A7);(·exact hS))|(with_reducible first|apply A5|apply A4)<;>intro _
  exact⟨i+1,(A++[V2 o2 n2 v2 m2 (ng l2 (xL a2))],false),rfl,rfl,rfl,by omega,by omega,hs,by simp⟩
 |none=>
  have hge:=D1.1 hx
  rw[x4 hge,<- hR] at h5
  subst h5
  subst h6
  repeat' first|refine st ?_|(with_reducible first|apply A5|apply A4)<;>intro _
  all_goals exact⟨rfl,rfl⟩
end Go.Proofs
end
section
namespace Go.Bi
open Go
section
variable {P:Program}{n nb:Nat}{M:C5}{G:Gh}{os:List AO}{w:World}{ρ:C7}{a:Act}
def A66(Q:AV->List AO->Prop)(rs:List RV)(ρ:C7)(os:List AO):Prop:=g9 ρ os rs λl=>match l with
 |[x,y]=>x.one=true/\y.one=true/\Q (.tup [x,y]) os
 |_=>False
def A64(Q:AV->List AO->Prop)(rs:List RV)(L:Sl)(os:List AO):Prop:=A3k L os rs λl=>match l with
 |[x,y]=>F7 (x.one=true) (F7 (y.one=true) (Q (.tup [x,y]) os))
 |_=>False
theorem B0g{ρ:C7}{os:List AO}{K K':List AV->Prop}(hk:∀l,K l->K' l):∀{rs:List RV},g9 ρ os rs K->g9 ρ os rs K'
 |[],h=>hk _ h
 |.t s::rs,h=>B0g (rs:=rs) (λl hl=>hk _ hl) h
 |.cell s m g::rs,h=>by
  simp only[g9] at h ⊢
  obtain⟨r,h1,h2⟩:=A7w h
  exact h2 _ (B0g (rs:=rs) (λl hl=>hk _ hl) h1)
theorem B8T{Q:AV->List AO->Prop}{rs:List RV}{L:Sl}{os:List AO}(h:A64 Q rs L os):A66 Q rs (D5 L) os:=by
 have h1:=A4h h
 refine B0g (λl hl=>?_) h1
 match l,hl with
 |[x,y],hl=>exact⟨hl.1,hl.2.1,hl.2.2⟩
theorem D2k{c:s6}(hR:W6 n nb c M G os w ρ a){fn:Func}{rs:List RV}(hrs:fn.results.toList.mapM (cRV P)=some rs){Q:AV->List AO->Prop}(h:A66 Q rs ρ os) :
  ∃v,(results fn a.tmps).run P w=.ok v w/\∃M' G' r os',C3 M' G' os' w/\E3 c.M c.G c.os c.w M' G' os' w/\VA M' G' os' r v/\Q r os':=by
 obtain⟨l,vs,h1,h2,h3,h4⟩:=A7K hR.env hR.tmps _ rs hrs _ h
 match l,h1,h3,h4 with
 |[x,y],h1,h3,h4=>
  simp only[N9,X7] at h3
  refine⟨_,B0n h2,M,G,.tup [x,y],os,hR.env,hR.since,?_,h1.2.2⟩
  rw[dif_neg (by omega)]
  refine⟨vs.toArray,rfl,by simpa using h3,λj c u hc hu=>?_⟩
  have hu:vs[j]?=some u:=by simpa using hu
  match j,hc with
  |0,hc=>cases hc;exact B0c (h4 0 _ u rfl hu) h1.1
  |1,hc=>cases hc;exact B0c (h4 1 _ u rfl hu) h1.2.1
  |j+2,hc=>simp at hc
theorem D0y(hm:P.follows .mixedOrders=true){f:FuncId}{fn:Func}{code:Code}{ic:IC}{rs:List RV}(hf:P.funcs[f]?=some fn)(hname:fn.name≠ "runtime.NumGoroutine")(hb:fn.body=some code)(hc:cC P fn.ntmps code=some ic)
  (hrs:fn.results.toList.mapM (cRV P)=some rs) {args:List AV} {bs:List AO} (hargs:args.length<=fn.ntmps) {Q:AV->List AO->Prop}
  (h:V9 P fn.ntmps bs.length ic {norm:=A66 Q rs,exit:=λ_ _ _=>False,ret:=A66 Q rs} (A12 args) bs):B4 P f args bs Q:=by
 refine⟨⟨fn,hf,by rw[hb];rfl,hname⟩,λM G w vs he hl hv=>?_⟩
 refine calls_of_wp hf hb (wp_mono (A6m hm code ic hc _ _ _ h ⟨M,G,bs,w⟩ M G w {tmps:=vs++Array.replicate (fn.ntmps-vs.size) undef,defers:=[]} ?_) λe a' w' hp=>?_)
 ·exact {
   env:=he,since:=E3.refl ..,size:=by simp;omega,defers:=rfl,base:=rfl
   tmps:=λt=>by
    unfold A12
    by_cases ht:t<args.length
    ·have h1:(vs++Array.replicate (fn.ntmps-vs.size) undef).getD t undef=vs[t]:=by
      simp[A23 (show t<vs.size by omega),show t<vs.size by omega]
     have h2:args.getD t .junk=args[t]:=by simp[ht]
     show VA M G bs (args.getD t .junk) ((vs++Array.replicate (fn.ntmps-vs.size) undef).getD t undef)
     rw[h1,h2]
     have:=hv t args[t] vs[t] (C9 ht) (K5 (by omega))
     generalize args[t]=c at this
     cases c with
     |tup cs=>exact this.elim
     |junk=>trivial
     |_=>exact this
    ·have:args.getD t .junk=.junk:=by simp[G9,A0a (Nat.le_of_not_lt ht)]
     rw[this]
     trivial}
 ·have fin:A09 fn.ntmps bs.length ⟨M,G,bs,w⟩ (A66 Q rs) a' w'->a'.defers=[]/\∃v,(results fn a'.tmps).run P w'=.ok v w'/\∃v',Ending.returned v=.returned v'/\∃M' G' r os',C3 M' G' os' w'/\E3 M G bs w M' G' os' w'/\VA M' G' os' r v'/\Q r os':=by
   rintro⟨M',G',os',ρ',hR,hk⟩
   obtain⟨v,h1,h2⟩:=D2k hR hrs hk
   exact⟨hR.defers,v,h1,v,rfl,h2⟩
  cases e with
  |normal=>exact fin hp
  |ret=>exact fin hp
  |exit id=>obtain⟨_,_,_,_,_,hk⟩:=hp;exact hk.elim
  |_=>exact hp.elim
end
theorem C1.goO2{P:Program}(hm:P.follows .mixedOrders=true){f n:Nat}{ic:IC}{rs:List RV}(h:C1 P f n ic rs){args:List AV}{bs:List AO}(hargs:Nat.ble args.length n=true){Q:AV->List AO->Prop}
  (hw:Go (xI P n bs.length ic (A64 Q rs) (λ_ _ _=>False) (A64 Q rs) (A0E 0 args) bs)):B4 P f args bs Q:=by
 obtain⟨fn,h1,h2,h3,h4,h5⟩:=h
 obtain⟨code,hb,hc⟩:=Y5.1 h4
 subst h2
 refine D0y hm h1 (by simpa using h3) hb hc h5 (P2 hargs) ?_
 rw[B09]
 exact A3j (K:=⟨A64 Q rs,λ_ _ _=>False,A64 Q rs⟩) ⟨λL os h=>B8T h,λ_ _ _ h=>h,λL os h=>B8T h⟩ hw
end Go.Bi
end
section
namespace Go.Proofs
open Go.Bi
theorem C0p(t:Tb)(dc dk df dx:D)(h:N4 t dc dk df dx)(c:Ch)(hc:J1 c)(hq:E5 t c≠0):Pure Tryz.prog R7 [eT t.nm dc dk df dx,c.av] (.tup [eT [] .nil .nil .nil .nil,.d (eI (E5 t c))]):=by
 have hC:=U7 t dc dk df dx h c hc
 obtain⟨q,hqq⟩:∃q,q=E5 t c:=⟨_,rfl⟩
 rw[<- hqq] at hC hq ⊢
 obtain⟨k,nm,to,⟨cn,ck,cl⟩,⟨vk,vn,vs⟩⟩:=c
 refine V4.go A6 rfl ?_
 repeat' first|refine st ?_|((with_reducible first|apply A8|apply A7);(·exact hC))|(with_reducible first|apply A5|apply A4)<;>intro _
 all_goals rfl
theorem C0x (T0 T1 T2 T3 T4 T7 : AO) (nm : List UInt8) (es : List (List D)) (hm : ∀ e ∈ es, e.length = 3) (i : Nat) (hi : i < es.length) (hel : es.length ≤ 1048576) (ks : List Int) (hkb : ∀ k ∈ ks, 0 ≤ k ∧ k ≤ 1048576) (hkl : ks.length ≤ 1048576) (kn : Bool) (hkn : kn = true → ks = []) (xs : List Ex) (hxl : xs.length ≤ 1048576) (hxb : ∀ e ∈ xs, e.bk ≤ 1048576) (xn : Bool) (hxn : xn = true → xs = []) :
    B4 Tryz.prog A0z [.ptr 10 0, .d (eI i)] [T0, T1, T2, T3, T4, .arr es 3 0 false, .arr (A0 ks) 1 0 kn, T7, .rarr [] 2 true, .arr (xL xs) 7 0 xn, .cells [.d (.str nm), .arr 5 es.length, .arr 6 (A0 ks).length, .rs 8 0, .arr 9 (xL xs).length]]
      (fun r os => r = .tup [] ∧ os = [T0, T1, T2, T3, T4, .arr (es.eraseIdx i ++ [M3]) 3 (es.length - 1) false, .arr (A0 (ks.map fun c => B0 c i)) 1 0 kn, T7, .rarr [] 2 true, .arr (xL (xs.map (E4 (I0 es.length i)))) 7 0 xn,
        .cells [.d (.str nm), .d (.sl (es.eraseIdx i)), .arr 6 (A0 ks).length, .rs 8 0, .arr 9 (xL xs).length]]) := by
  have := B4.frame (K := fun r os => r = .tup [] ∧ os = [T0, T1, T2, T3, T4, .arr (es.eraseIdx i ++ [M3]) 3 (es.length - 1) false, .arr (A0 (ks.map fun c => B0 c i)) 1 0 kn, T7, .rarr [] 2 true, .arr (xL (xs.map (E4 (I0 es.length i)))) 7 0 xn,
        .cells [.d (.str nm), .d (.sl (es.eraseIdx i)), .arr 6 (A0 ks).length, .rs 8 0, .arr 9 (xL xs).length]]) (C0w nm es hm i hi hel ks hkb hkl kn hkn xs hxl hxb xn hxn) [10, 5, 6, 8, 9]
    [T0, T1, T2, T3, T4, .arr es 3 0 false, .arr (A0 ks) 1 0 kn, T7, .rarr [] 2 true, .arr (xL xs) 7 0 xn, .cells [.d (.str nm), .arr 5 es.length, .arr 6 (A0 ks).length, .rs 8 0, .arr 9 (xL xs).length]] rfl (by decide) (fun i o h => by
      match i, h with
      | 0, h => cases h; rfl
      | 1, h => cases h; rfl
      | 2, h => cases h; rfl
      | 3, h => cases h; rfl
      | 4, h => cases h; rfl
      | i + 5, h => simp at h) (fun a ha => by
        simp only [I9, s8, or_false] at ha
        rcases ha with rfl | rfl <;> simp [AV.bnd2, AV.bnd1]) (fun o ho => by
        simp only [I9, s8, or_false] at ho
        rcases ho with rfl | rfl | rfl | rfl | rfl
        · exact M7 rfl
        · exact M7 rfl
        · exact M7 rfl
        · exact M7 rfl
        · exact M7 rfl) (by
      rintro r bs' ⟨rfl, rfl⟩
      exact ⟨rfl, rfl⟩)
  exact this
theorem O8{d:D}{es:List (List D)}(h:B5 d es):C0 (A9 d) es=d:=by
 rcases h with ⟨rfl,rfl⟩|rfl<;>rfl
theorem X5{b:Bool}{es:List (List D)}(h:b=true->es=[]):B5 (C0 b es) es:=by
 cases b with
 |true=>exact .inl ⟨rfl,h rfl⟩
 |false=>exact .inr rfl
theorem l0{d:D}{es:List (List D)}(h:B5 d es)(hn:A9 d=true):es=[]:=by
 rcases h with ⟨_,h1⟩|rfl
 ·exact h1
 ·cases hn
theorem V6{os:List AO}{nm:List UInt8}{b f x:Nat}{dcv:AV}{dcd:D}{K X:List (List D)}{rows:List (List AV)}{fs:List Fo}{kn xn nl:Bool}{kz xz kf xf:Nat}{e:D}
  (h1:DC os dcv dcd) (h2:os[b]?=some (.arr K kz kf kn)) (h3:os[f]?=some (.rarr rows 2 nl)) (h4:os[x]?=some (.arr X xz xf xn)) (hl:fs.length=rows.length)
  (hr:∀(i:Nat) e (g:Fo),rows[i]?=some e->fs[i]?=some g->∃q es fl,e=[.arr q es.length,.d (.str g.tb)]/\os[q]?=some (.arr es 1 0 fl)/\g.d=C0 fl es) :
  DA os (.tup [.agg [.d (.str nm),dcv,.arr b K.length,.rs f rows.length,.arr x X.length],.d e]) (.tup [eT nm dcd (C0 kn K) (C0 nl (F8 fs)) (C0 xn X),.d e]):=by
 refine .inr ⟨_,_,rfl,rfl,rfl,λj c y hc hy=>?_⟩
 match j,hc,hy with
 |0,hc,hy=>
  cases hc;cases hy
  refine .inr ⟨_,[.str nm,dcd,C0 kn K,C0 nl (F8 fs),C0 xn X],rfl,rfl,rfl,λj c y hc hy=>?_⟩
  match j,hc,hy with
  |0,hc,hy=>cases hc;cases hy;exact .inl (.inl rfl)
  |1,hc,hy=>cases hc;cases hy;exact h1
  |2,hc,hy=>cases hc;cases hy;exact .inl (.inr ⟨b,K,kz,kf,kn,rfl,h2,rfl⟩)
  |3,hc,hy=>
   cases hc;cases hy
   refine .inr ⟨f,rows,2,nl,F8 fs,rfl,h3,by rw[c8];exact hl,λi e e' he he'=>?_,rfl⟩
   obtain⟨g,hg,rfl⟩:∃g,fs[i]?=some g/\g.ds=e':=by
    unfold F8 at he'
    rw[G4] at he'
    exact H6.1 he'
   obtain⟨q,es,fl,rfl,h5,h6⟩:=hr i e g he hg
   refine⟨rfl,λj c x hc hx=>?_⟩
   match j,hc,hx with
   |0,hc,hx=>cases hc;cases hx;exact .inr ⟨q,es,1,0,fl,rfl,h5,h6⟩
   |1,hc,hx=>cases hc;cases hx;exact .inl rfl
   |j+2,hc,hx=>simp at hc
  |4,hc,hy=>cases hc;cases hy;exact .inl (.inr ⟨x,X,xz,xf,xn,rfl,h4,rfl⟩)
  |j+5,hc,hy=>simp at hc
 |1,hc,hy=>cases hc;cases hy;exact .inl ⟨e,.inl (.inl rfl),rfl⟩
 |j+2,hc,hy=>simp at hc
theorem A7y{α β:Type}(f:α->β):∀(l:List α)(i:Nat),(l.eraseIdx i).map f=(l.map f).eraseIdx i
 |[],i=>rfl
 |a::l,0=>rfl
 |a::l,i+1=>by simp[A7y f l i]
theorem A3L(l:List Co)(i:Nat):B3 (l.eraseIdx i)=(B3 l).eraseIdx i:=A7y _ _ _
def dF(l:List Fo):D:=C0 l.isEmpty (F8 l)
def I4(i:Nat)(g:Fo):Fo:=⟨g.nl,g.cs.map λc=>B0 c i,g.tb⟩
theorem A13(i:Nat)(g:Fo):(I4 i g).d=C0 (A9 g.d) (A0 (g.cs.map λc=>B0 c i)):=by
 obtain⟨nl,cs,tb⟩:=g
 unfold I4 Fo.d ng
 cases nl<;>cases cs<;>rfl
def D0u(v:Vl)(k:Int):Bool:=A0u v&&(decide (v.k=0)||decide (v.k=k))
def D3T(row:List Vl)(ks:List Int):Bool:=decide (row.length=ks.length)&&(row.zip ks).all λp=>D0u p.1 p.2
theorem B6X:∀{l:List (Int×Int)},fe l=0->∀x∈l,x.2=0
 |[],_,x,hx=>by cases hx
 |y::l,h,x,hx=>by
  unfold fe at h
  by_cases hy:y.2=0
  ·rw[if_pos hy] at h
   rcases I9.1 hx with rfl|hx
   ·exact hy
   ·exact B6X h x hx
  ·rw[if_neg hy] at h;exact absurd h hy
def Knd(l:List Vl)(ks:List Int):Prop:=l.length=ks.length/\∀i,(h:i<l.length)->(h2:i<ks.length)->l[i].k=ks[i]\/l[i].k=0
theorem Knd.all{l:List Vl}{ks:List Int}(h:Knd l ks){r:Int}(hr:∀x∈ks,x=0\/x=r):∀v∈l,v.k=r\/v.k=0:=by
 intro v hv
 obtain⟨i,hi,rfl⟩:=A2L.1 hv
 have h2:i<ks.length:=by have:=h.1;omega
 have h3:=h.2 i hi h2
 have h4:=hr ks[i] (A0X h2)
 omega
theorem y0(op n:Int)(v:Vl)(nm:List UInt8)(nl:Bool)(args:List Ex):E9 (.mk op n v nm nl args)=.mk op n v nm true (args.map E9):=by
 unfold E9
 rw[A40]
 split<;>rfl
theorem A7z{α β:Type}{f g:α->β}{l:List α}(h:∀a∈l,f a=g a):l.map f=l.map g:=S8 h
theorem A0p{α β γ:Type}{f:β->γ}{g:α->β}{h:α->γ}{l:List α}(hh:∀a∈l,f (g a)=h a):(l.map g).map f=l.map h:=by
 rw[W3];exact S8 hh
theorem A9x:∀e:Ex,E9 (E9 e)=E9 e:=by
 refine Ex.ind λop n v nm nl args ih=>?_
 rw[y0,y0,A0p (h:=E9) λa ha=>ih a ha]
theorem D3s{n:Int}(h1:IntKind.i64.min<=n)(h2:n<=IntKind.i64.max):w64 (n+0)=n:=by
 have e1:IntKind.i64.min=-9223372036854775808:=rfl
 have e2:IntKind.i64.max=9223372036854775807:=rfl
 rw[Int.add_zero]
 show IntKind.i64.wrap n=n
 rw[IntKind.wrap_i64]
 omega
theorem B9h:∀e:Ex,e.Rg->B8 0 e=E9 e:=by
 refine Ex.ind λop n v nm nl args ih hr=>?_
 cases hr with
 |mk h1 h2 h=>
  rw[B9i,y0,A7z (g:=E9) λa ha=>ih a ha (h a ha),D3s h1 h2]
  split<;>rfl
theorem B6z:∀e:Ex,L9 (E9 e)=L9 e:=by
 refine Ex.ind λop n v nm nl args ih=>?_
 rw[y0,A2i,A2i,A0p (h:=L9) λa ha=>ih a ha]
theorem B6y(ks:List Int):∀e:Ex,G7 ks (E9 e)=G7 ks e:=by
 refine Ex.ind λop n v nm nl args ih=>?_
 rw[y0,A0I,A0I,D0,A0p (h:=G7 ks) λa ha=>ih a ha]
theorem A7j{α:Type}{f g:α->List Int}:∀{l:List α},(∀a∈l,f a=g a)->l.flatMap f=l.flatMap g
 |[],_=>rfl
 |a::l,h=>by rw[A1B,A1B,h a (by simp),A7j λb hb=>h b (by simp[hb])]
theorem A7i{α β:Type}(f:α->β)(g:β->List Int):∀l:List α,(l.map f).flatMap g=l.flatMap λa=>g (f a)
 |[]=>rfl
 |a::l=>by rw[Q4,A1B,A1B,A7i f g l]
theorem C9u:∀e:Ex,K9 (E9 e)=K9 e:=by
 refine Ex.ind λop n v nm nl args ih=>?_
 rw[y0,A36,A36,A7i,A7j (g:=K9) λa ha=>ih a ha]
theorem C9t(e:Ex):O0 (E9 e)=O0 e:=by unfold O0;rw[C9u]
theorem A9y:∀e:Ex,e.Rg->(E9 e).Rg:=by
 refine Ex.ind λop n v nm nl args ih hr=>?_
 cases hr with
 |mk h1 h2 h=>
  rw[y0]
  refine .mk h1 h2 λa ha=>?_
  obtain⟨b,hb,rfl⟩:=F2.1 ha
  exact ih b hb (h b hb)
theorem B63(op n n':Int)(v:Vl)(nm:List UInt8)(nl:Bool)(args args':List Ex)(h:G6 (xL args')<=G6 (xL args)):(Ex.mk op n' v nm true args').bk<=(Ex.mk op n v nm nl args).bk:=by
 rw[Ex.bk,Ex.bk,Ex.ds_mk,Ex.ds_mk]
 simp only[E7,U0,C8X]
 omega
theorem A5m:∀e:Ex,(E9 e).bk<=e.bk:=by
 refine Ex.ind λop n v nm nl args ih=>?_
 rw[y0]
 exact B63 _ _ _ _ _ _ _ _ (B66 E9 args ih)
theorem C9v:∀a b:Ex,E9 a=E9 b->smE a b=true:=by
 refine Ex.ind λop n v nm nl args ih b h=>?_
 obtain⟨op',n',v',nm',nl',args'⟩:=b
 rw[y0,y0] at h
 injection h with e1 e2 e3 e4 e5 hm
 subst e1;subst e2;subst e3;subst e4
 rw[B9m,A7S]
 have hl:args.length=args'.length:=by rw[<- D0 (f:=E9),hm,D0]
 simp only[decide_true,s5,hl,O3]
 intro p hp
 obtain⟨i,hi,rfl⟩:=A2L.1 hp
 rw[List.length_zip] at hi
 rw[List.getElem_zip]
 refine ih _ (A0X _) _ ?_
 have e1:(args.map E9)[i]?=some (E9 (args[i]'(by omega))):=by rw[G4,C9 (by omega)];rfl
 have e2:(args'.map E9)[i]?=some (E9 (args'[i]'(by omega))):=by rw[G4,C9 (by omega)];rfl
 rw[hm,e2] at e1
 exact(Option.some.inj e1).symm
def dnC(i:Nat):Ex->Ex
 |.mk op n v nm nl args=>.mk op (B0 n i) v nm nl args
def N8(i:Nat)(e:Ex):Ex:=O4 (dnC i) e
theorem A2j(i:Nat)(op n:Int)(v:Vl)(nm:List UInt8)(nl:Bool)(args:List Ex):N8 i (.mk op n v nm nl args)=.mk op (if op=2 then B0 n i else n) v nm true (args.map (N8 i)):=by
 unfold N8
 rw[A40]
 split<;>rfl
theorem C9O(i:Nat):∀e:Ex,N8 i (E9 e)=N8 i e:=by
 refine Ex.ind λop n v nm nl args ih=>?_
 rw[y0,A2j,A2j,A0p (h:=N8 i) λa ha=>ih a ha]
theorem C9N(i:Nat):∀e:Ex,(N8 i e).bk<=e.bk:=by
 refine Ex.ind λop n v nm nl args ih=>?_
 rw[A2j]
 exact B63 _ _ _ _ _ _ _ _ (B66 (N8 i) args ih)
theorem C8K{n:Int}(i:Nat)(h1:IntKind.i64.min<=n)(h2:n<=IntKind.i64.max):IntKind.i64.min<=B0 n i/\B0 n i<=IntKind.i64.max:=by
 have e1:IntKind.i64.min=-9223372036854775808:=rfl
 have e2:IntKind.i64.max=9223372036854775807:=rfl
 unfold B0
 split<;>omega
theorem C9Q(i:Nat):∀e:Ex,e.Rg->(N8 i e).Rg:=by
 refine Ex.ind λop n v nm nl args ih hr=>?_
 cases hr with
 |mk h1 h2 h=>
  rw[A2j]
  have hb:=C8K i h1 h2
  refine .mk (by split;exact hb.1;exact h1) (by split;exact hb.2;exact h2) λa ha=>?_
  obtain⟨b,hb,rfl⟩:=F2.1 ha
  exact ih b hb (h b hb)
theorem C9P(i:Nat):∀e:Ex,L9 (N8 i e)=L9 e:=by
 refine Ex.ind λop n v nm nl args ih=>?_
 rw[A2j,A2i,A2i,A0p (h:=L9) λa ha=>ih a ha]
theorem A9s{ks:List Int}{op n:Int}{v:Vl}{nm:List UInt8}{nl:Bool}{args:List Ex}(h:(G7 ks (.mk op n v nm nl args)).2=0) :
  (S4 op args.length).2=true/\M8 op n v nm args.length=true/\(op=2->0<=n/\n<ks.length/\args=[]/\nm=[]/\v=U6)/\(op≠2->∀a∈args,(G7 ks a).2=0):=by
 rw[A0I] at h
 unfold S0 at h
 by_cases h1:(S4 op args.length).2=false
 ·rw[if_pos h1] at h;cases h
 by_cases h2:M8 op n v nm args.length=false
 ·rw[if_neg h1,if_pos h2] at h;cases h
 rw[if_neg h1,if_neg h2] at h
 have h2':M8 op n v nm args.length=true:=by simpa using h2
 refine⟨by simpa using h1,h2',λho=>?_,λho a ha=>?_⟩
 ·subst ho
  rw[if_pos rfl] at h
  rw[A9L] at h2'
  obtain⟨a1,a2,a3,a4,a5⟩:=of_decide_eq_true h2'
  have hv:v=U6:=by
   obtain⟨x,y,z⟩:=v
   simp only at a3 a4 a5
   subst a3;subst a4;subst a5;rfl
  by_cases hn:0<=n/\n<ks.length
  ·exact⟨hn.1,hn.2,A28.1 a1,a2,hv⟩
  ·rw[if_neg hn] at h;cases h
 ·rw[if_neg ho] at h
  by_cases hf:fe (args.map (G7 ks))=0
  ·exact B6X hf _ (F2.2 ⟨a,ha,rfl⟩)
  ·rw[if_neg hf] at h
   exact absurd h hf
theorem D1l{m:Nat}(i:Nat){n:Int}(h0:0<=n)(h1:n<m):(I0 m i).getD n.toNat A7D=mvE n i:=by
 have hl:n.toNat<m:=by omega
 unfold I0
 rw[G9,G4,List.getElem?_range hl,A0A,j7]
 congr 1
 omega
theorem D3b{ks:List Int}{m:Nat}(i:Nat)(hm:ks.length=m):∀e:Ex,(G7 ks e).2=0->E4 (I0 m i) (E9 e)=N8 i e:=by
 refine Ex.ind λop n v nm nl args ih h=>?_
 obtain⟨_,_,h3,h4⟩:=A9s h
 rw[y0,A2j]
 unfold E4
 rw[A40]
 by_cases ho:op=2
 ·obtain⟨a1,a2,rfl,rfl,rfl⟩:=h3 ho
  subst ho
  rw[if_pos rfl,if_pos rfl]
  have hin:inC (I0 m i) n U6 [] 0=true:=by
   unfold inC
   rw[A0Q]
   exact decide_eq_true ⟨rfl,rfl,⟨rfl,rfl,rfl⟩,a1,by omega⟩
  show(if inC (I0 m i) n U6 [] 0=true then E9 ((I0 m i).getD n.toNat A7D) else _)=_
  rw[if_pos hin,D1l i a1 (by omega)]
  unfold mvE
  rw[y0]
  rfl
 ·rw[if_neg ho,if_neg ho,A0p (f:=O4 (A2A (I0 m i))) (h:=N8 i) λa ha=>ih a ha (h4 ho a ha)]
theorem D0j(ks:List Int)(i:Nat){n:Int}(h0:0<=n)(hne:n≠i):(ks.eraseIdx i).getD (B0 n i).toNat 0=ks.getD n.toNat 0:=by
 rw[G9,G9,List.getElem?_eraseIdx]
 unfold B0
 by_cases h:(i:Int)<n
 ·rw[if_pos h,if_neg (by omega)]
  congr 2
  omega
 ·rw[if_neg h,if_pos (by omega)]
theorem C9f{ks:List Int}{i:Nat}(hi:i<ks.length):∀e:Ex,(G7 ks e).2=0->¬(i:Int)∈K9 e->G7 (ks.eraseIdx i) (N8 i e)=G7 ks e:=by
 refine Ex.ind λop n v nm nl args ih h hi'=>?_
 obtain⟨h1,h2,h3,h4⟩:=A9s h
 rw[A36] at hi'
 rw[A2j,A0I,A0I,D0]
 by_cases ho:op=2
 ·obtain⟨a1,a2,rfl,rfl,rfl⟩:=h3 ho
  subst ho
  have hne:n≠i:=λe=>hi' (by rw[e];simp)
  rw[if_pos rfl]
  unfold S0
  have hf:M8 2 (B0 n i) U6 [] ([]:List Ex).length=true:=by rw[A9L];exact decide_eq_true ⟨rfl,rfl,rfl,rfl,rfl⟩
  have hlen:(ks.eraseIdx i).length=ks.length-1:=by rw[List.length_eraseIdx,if_pos hi]
  have hb:0<=B0 n i/\B0 n i<(ks.eraseIdx i).length:=by rw[hlen];unfold B0;split<;>omega
  rw[h1,h2,hf,if_neg (by decide),if_neg (by decide),if_pos rfl,if_pos hb,if_neg (by decide),if_neg (by decide),if_pos rfl,if_pos ⟨a1,a2⟩,D0j ks i a1 hne]
 ·rw[if_neg ho]
  unfold S0
  rw[if_neg ho,if_neg ho,A0p (f:=G7 (ks.eraseIdx i)) (g:=N8 i) (h:=G7 ks) λa ha=>ih a ha (h4 ho a ha) λhm=>hi' (P0.2 (.inr (A3s.2 ⟨a,ha,hm⟩)))]
theorem B6o{n:Int}{ks:List Int}{rs:List (Int×Int)}(h0:0<=n)(h1:n<ks.length):S0 2 n U6 [] ks 0 rs=(ks.getD n.toNat 0,0):=by
 have hf:M8 2 n U6 [] 0=true:=by rw[A9L];exact decide_eq_true ⟨rfl,rfl,rfl,rfl,rfl⟩
 have hc:(S4 2 (0:Nat)).2=true:=by decide
 unfold S0
 rw[hc,hf,if_neg (by decide),if_neg (by decide),if_pos rfl,if_pos ⟨h0,h1⟩]
theorem C9g{ks:List Int}(k:Int):∀e:Ex,(G7 ks e).2=0->G7 (ks++[k]) e=G7 ks e:=by
 refine Ex.ind λop n v nm nl args ih h=>?_
 obtain⟨h1,h2,h3,h4⟩:=A9s h
 rw[A0I,A0I]
 by_cases ho:op=2
 ·obtain⟨a1,a2,rfl,rfl,rfl⟩:=h3 ho
  subst ho
  rw[X7,B6o a1 a2,B6o a1 (by rw[Q3];simp;omega)]
  have:(ks++[k]).getD n.toNat 0=ks.getD n.toNat 0:=by
   rw[G9,G9,M6 (by omega)]
  rw[this]
 ·unfold S0
  rw[if_neg ho,if_neg ho,A7z (f:=G7 (ks++[k])) (g:=G7 ks) λa ha=>ih a ha (h4 ho a ha)]
theorem C9h{ks:List Int}{i:Nat}(k:Int):∀e:Ex,¬(i:Int)∈K9 e->G7 (ks.set i k) e=G7 ks e:=by
 refine Ex.ind λop n v nm nl args ih hi=>?_
 rw[A36] at hi
 rw[A0I,A0I,A7z (f:=G7 (ks.set i k)) (g:=G7 ks) λa ha=>ih a ha λhm=>hi (P0.2 (.inr (A3s.2 ⟨a,ha,hm⟩)))]
 unfold S0
 rw[Y4]
 by_cases ho:op=2
 ·subst ho
  have hne:n≠i:=λe=>hi (by rw[e];simp)
  by_cases hn:0<=n/\n<ks.length
  ·have:(ks.set i k).getD n.toNat 0=ks.getD n.toNat 0:=by
    rw[G9,G9,S7 (by omega)]
   rw[this]
  ·simp only[hn,if_false]
 ·simp only[ho,if_false]
def acF:List Vl->List Co->Int
 |v::r,c::l=>if A0u v=false then 8 else if v.k=0 then (if c.nl then acF r l else 12) else if v.k=c.k then acF r l else 7
 |_,_=>0
def F5(row:List Vl)(O0:List Co):Int:=if row.length=O0.length then acF row O0 else 13
def pick(row:List Vl)(ks:List Int):List Vl:=ks.map (vAt row)
theorem A8g(ks:List Int)(hk:ks.length<=1048576)(d d':D)(hd:B5 d (A0 ks))(hd':B5 d' (A0 ks)):Pure Tryz.prog A4X [.d d,.d d'] (.d (.bool true)):=by
 refine A8t.go A6 rfl ?_
 have h1:=B6 ks
 have hm:=D2 ks
 repeat' first|refine st ?_|(with_reducible first|apply A5|apply A4)<;>intro _
 refine F3 A6 B4f B40 (λ(i:Nat)=>[.d (eI i)]) (λi=>[]) (λi=>i<=ks.length) (λi=>ks.length-i) 0 rfl rfl rfl rfl (λ_ _=>⟨rfl,rfl⟩) rfl (S9 _) ?_
 repeat' first|refine st ?_|(with_reducible first|apply A5|apply A4)<;>intro _
 intro i h4
 cases hx:ks[i]? with
 |some k=>
  have hlt:=(B2.1 hx).1
  have hg:=J9 hx
  repeat' first|refine st ?_|(with_reducible first|apply A5|apply A4)<;>intro _
  exact⟨i+1,rfl,rfl,rfl,by omega,by omega⟩
 |none=>
  have hge:=D1.1 hx
  repeat' first|refine st ?_|(with_reducible first|apply A5|apply A4)<;>intro _
  all_goals rfl
theorem B9r{t:Tb}(h:J0 t=0):L2 t.nm=true/\u4 t.cs=0/\A0l t.cs t.ks=0/\A1a t=0:=by
 unfold J0 at h
 split at h
 ·rename_i h1
  split at h
  ·rename_i h2
   split at h
   ·rename_i h3;exact⟨h1,h2,h3,h⟩
   ·rename_i h3;exact absurd h h3
  ·rename_i h2;exact absurd h h2
 ·cases h
theorem B6s{l:List Co}(h:u4 l=0):1<=l.length/\l.length<=12/\m7 [] l=0:=by
 unfold u4 at h
 split at h
 ·rename_i h1;exact⟨h1.1,h1.2,h⟩
 ·cases h
theorem B6u:∀{l:List Co}{seen:List (List UInt8)},m7 seen l=0->∀(i:Nat) c,l[i]?=some c->L2 c.nm=true/\1<=c.k/\c.k<=3/\¬c.nm∈seen/\∀(j:Nat) d,l[j]?=some d->d.nm=c.nm->j=i
 |[],_,_,i,c,hi=>by simp at hi
 |a::r,seen,h,i,c,hi=>by
  unfold m7 at h
  split at h
  ·rename_i h1
   split at h
   ·rename_i h2
    split at h
    ·cases h
    ·rename_i h3
     have ih:=B6u h
     cases i with
     |zero=>
      simp only[A1C,A11] at hi
      subst hi
      refine⟨h1,h2.1,h2.2,h3,λj d hj e=>?_⟩
      cases j with
      |zero=>rfl
      |succ j=>
       rw[A0W] at hj
       exact absurd (by simp[e]) (ih j d hj).2.2.2.1
     |succ i=>
      rw[A0W] at hi
      obtain⟨g1,g2,g3,g4,g5⟩:=ih i c hi
      refine⟨g1,g2,g3,λhm=>g4 (by simp[hm]),λj d hj e=>?_⟩
      cases j with
      |zero=>
       simp only[A1C,A11] at hj
       subst hj
       exact absurd (by simp[e]) g4
      |succ j=>
       rw[A0W] at hj
       rw[g5 j d hj e]
   ·cases h
  ·cases h
theorem B73{nm:List UInt8}:∀{l:List Co}{s i:Nat}{c:Co},l[i]?=some c->c.nm=nm->(∀(j:Nat) d,l[j]?=some d->d.nm=nm->j=i)->k9 nm s l=(s+i:Nat)
 |[],s,i,c,hi,_,_=>by simp at hi
 |a::r,s,i,c,hi,e,hu=>by
  unfold k9
  cases i with
  |zero=>
   simp only[A1C,A11] at hi
   subst hi
   rw[if_pos e];simp
  |succ i=>
   rw[if_neg (λh=>by have:=hu 0 a rfl h;omega)]
   rw[A0W] at hi
   rw[B73 (s:=s+1) hi e (λj d hj e'=>by have:=hu (j+1) d (by rw[A0W];exact hj) e';omega)]
   congr 1;omega
theorem D0t{l:List Co}(h:u4 l=0){i:Nat}{c:Co}(hi:l[i]?=some c):E8 c.nm l=i:=by
 have:=B6u (B6s h).2.2 i c hi
 have:=B73 (s:=0) hi rfl this.2.2.2.2
 rw[E8,this];simp
def Tb.Rg(t:Tb):Prop:=∀e∈t.xs,e.Rg
def L7(f:Fo):Fo:=⟨false,f.cs,f.tb⟩
def nf(t:Tb):Tb:=⟨t.nm,t.cs,t.ks,t.fs.map L7,t.xs.map E9⟩
theorem B8g(t:Tb):nf (nf t)=nf t:=by
 unfold nf
 congr 1
 ·rw[W3];rfl
 ·exact A0p λa ha=>A9x a
theorem B7o(n:Nat):∀l:List Fo,V7 n (l.map L7)=V7 n l
 |[]=>rfl
 |f::r=>by rw[Q4,V7,V7,B7o n r];rfl
theorem C9c(ks:List Int)(e:Ex):A0g ks (E9 e)=A0g ks e:=by unfold A0g A18;rw[B6z,B6y]
theorem B6h(ks:List Int):∀l:List Ex,t8 ks (l.map E9)=t8 ks l
 |[]=>rfl
 |f::r=>by rw[Q4,t8,t8,B6h ks r,C9c]
theorem A2B(t:Tb):J0 (nf t)=J0 t:=by
 unfold J0 A1a A17 nf
 dsimp only
 rw[D0,D0,B7o,B6h]
theorem D3o(t:Tb):Z5 (nf t)=Z5 t:=by
 unfold Z5 A21 A6k nf
 dsimp only
 rw[A7i,A7i,A7j (f:=λa=>(L7 a).cs) (g:=Fo.cs) λa _=>rfl,A7j (f:=λa=>O0 (E9 a)) (g:=O0) λa _=>C9t a]
theorem A2o(t:Tb)(c:Ch):E5 (nf t) c=E5 t c:=by
 unfold E5
 rw[A2B]
 unfold A2V
 rw[D3o]
 rfl
def G8(t:Tb)(c:Ch):Tb:=
 if c.k=1 then ⟨t.nm,t.cs++[c.co],t.ks,t.fs,t.xs.map E9⟩
 else if c.k=2 then ⟨t.nm,t.cs.eraseIdx (E8 c.nm t.cs).toNat,t.ks.map (λx=>B0 x (E8 c.nm t.cs).toNat),t.fs.map (I4 (E8 c.nm t.cs).toNat),t.xs.map (N8 (E8 c.nm t.cs).toNat)⟩
 else if c.k=3 then ⟨t.nm,t.cs.set (E8 c.nm t.cs).toNat ⟨c.to,(t.cs.getD (E8 c.nm t.cs).toNat ⟨[],0,false⟩).k,(t.cs.getD (E8 c.nm t.cs).toNat ⟨[],0,false⟩).nl⟩,t.ks,t.fs,t.xs.map E9⟩
 else ⟨t.nm,t.cs.set (E8 c.nm t.cs).toNat ⟨(t.cs.getD (E8 c.nm t.cs).toNat ⟨[],0,false⟩).nm,2,(t.cs.getD (E8 c.nm t.cs).toNat ⟨[],0,false⟩).nl⟩,t.ks,t.fs,t.xs.map E9⟩
theorem A7B(t:Tb)(c:Ch):nf (G8 (nf t) c)=nf (G8 t c):=by
 have e1:(t.fs.map L7).map L7=t.fs.map L7:=by rw[W3];rfl
 have e2:((t.xs.map E9).map E9).map E9=(t.xs.map E9).map E9:=A0p λa ha=>A9x a
 have e3 (i:Nat):((t.fs.map L7).map (I4 i)).map L7=(t.fs.map (I4 i)).map L7:=by rw[W3,W3,W3];rfl
 have e4 (i:Nat):((t.xs.map E9).map (N8 i))=t.xs.map (N8 i):=A0p λa ha=>C9O i a
 unfold G8
 split
 ·unfold nf;dsimp only;rw[e1,e2]
 ·split
  ·unfold nf;dsimp only;rw[e3,e4]
  ·split
   ·unfold nf;dsimp only;rw[e1,e2]
   ·unfold nf;dsimp only;rw[e1,e2]
theorem D0n{t:Tb}(h:t.Rg)(c:Ch):(G8 t c).Rg:=by
 have h1:∀e∈t.xs.map E9,e.Rg:=λe he=>by
  obtain⟨a,ha,rfl⟩:=F2.1 he
  exact A9y a (h a ha)
 unfold G8
 split
 ·exact h1
 ·split
  ·intro e he
   obtain⟨a,ha,rfl⟩:=F2.1 he
   exact C9Q _ a (h a ha)
  ·split<;>exact h1
theorem A3O{t:Tb}{c:Ch}(h:E5 t c=0):J0 t=0/\(1<=c.k/\c.k<=4)/\A2y c=false/\(c.k=1->A0c t c=0)/\(c.k≠1->A2V t c=0):=by
 unfold E5 at h
 by_cases h1:J0 t=0
 ·rw[if_neg (by simpa using h1)] at h
  by_cases h2:1<=c.k/\c.k<=4
  ·rw[if_neg (by simpa using h2)] at h
   cases h3:A2y c with
   |true=>rw[h3,if_pos rfl] at h;cases h
   |false=>
    rw[h3,if_neg (by decide)] at h
    exact⟨h1,h2,rfl,λhk=>by rw[if_pos hk] at h;exact h,λhk=>by rw[if_neg hk] at h;exact h⟩
  ·rw[if_pos h2] at h;cases h
 ·rw[if_pos h1] at h;exact absurd h h1
theorem C8r{t:Tb}{c:Ch}(h:A0c t c=0):t.cs.length<12/\L2 c.co.nm=true/\(1<=c.co.k/\c.co.k<=3)/\E8 c.co.nm t.cs<0/\A0u c.df=true/\(c.df.k=0->c.co.nl=true)/\(c.df.k≠0->c.df.k=c.co.k):=by
 unfold A0c at h
 repeat' split at h
 all_goals first|(cases h;done)|skip
 rename_i h1 h2 h3 h4 h5 h6 h7
 refine⟨by omega,by simpa using h2,by omega,by omega,by simpa using h5,λe=>?_,λe=>?_⟩
 ·cases hh:c.co.nl with
  |true=>rfl
  |false=>exact absurd ⟨e,hh⟩ h6
 ·by_cases hh:c.df.k=c.co.k
  ·exact hh
  ·exact absurd ⟨e,hh⟩ h7
theorem A79{t:Tb}{c:Ch}(h:A2V t c=0):∃(i:Nat)(co:Co),E8 c.nm t.cs=i/\t.cs[i]?=some co/\co.nm=c.nm/\(c.k≠3->¬(i:Int)∈Z5 t)/\(c.k=4->co.k≠2)/\(c.k=3->L2 c.to=true/\E8 c.to t.cs<0):=by
 unfold A2V at h
 by_cases h0:E8 c.nm t.cs<0
 ·rw[if_pos h0] at h;cases h
 rw[if_neg h0] at h
 obtain⟨co,hc,hn⟩:=A9I (nm:=c.nm) (l:=t.cs) (by omega)
 have hi:E8 c.nm t.cs=((E8 c.nm t.cs).toNat:Int):=by omega
 by_cases h1:c.k≠3/\0<(Z5 t).count (E8 c.nm t.cs)
 ·rw[if_pos h1] at h;cases h
 rw[if_neg h1] at h
 by_cases h2:c.k=4/\A1M t (E8 c.nm t.cs)=2
 ·rw[if_pos h2] at h;cases h
 rw[if_neg h2] at h
 by_cases h3:c.k=3/\L2 c.to=false
 ·rw[if_pos h3] at h;cases h
 rw[if_neg h3] at h
 by_cases h4:c.k=3/\0<=E8 c.to t.cs
 ·rw[if_pos h4] at h;cases h
 refine⟨_,co,hi,hc,hn,λhk hm=>h1 ⟨hk,?_⟩,λhk hh=>h2 ⟨hk,?_⟩,λhk=>⟨?_,?_⟩⟩
 ·rw[hi];exact List.count_pos_iff.2 hm
 ·unfold A1M;rw[hc];exact hh
 ·cases hh:L2 c.to with
  |true=>rfl
  |false=>exact absurd ⟨hk,hh⟩ h3
 ·by_cases hh:E8 c.to t.cs<0
  ·exact hh
  ·exact absurd ⟨hk,by omega⟩ h4
structure Vd(t:Tb):Prop where
 nm:L2 t.nm=true
 l1:1<=t.cs.length
 l2:t.cs.length<=12
 co:∀c∈t.cs,L2 c.nm=true/\1<=c.k/\c.k<=3
 nd:(t.cs.map Co.nm).Nodup
 k0:t.ks≠[]
 ks:∀k∈t.ks,0<=k/\k<t.cs.length/\(t.cs.getD k.toNat ⟨[],0,false⟩).nl=false
 ka:t.ks.Pairwise (·<·)
 fl:t.fs.length<=4
 fs:∀f∈t.fs,L2 f.tb=true/\f.cs≠[]/\(∀c∈f.cs,0<=c/\c<t.cs.length)/\f.cs.Nodup
 xl:t.xs.length<=4
 xs:∀x∈t.xs,L9 x<=24/\(G7 (kd t.cs) x).2=0/\((G7 (kd t.cs) x).1=3\/(G7 (kd t.cs) x).1=0)
theorem A9w:∀{l:List Co}{seen:List (List UInt8)},m7 seen l=0↔(∀c∈l,L2 c.nm=true/\1<=c.k/\c.k<=3)/\(l.map Co.nm).Nodup/\∀c∈l,¬c.nm∈seen
 |[],seen=>by simp[m7]
 |a::r,seen=>by
  unfold m7
  by_cases h1:L2 a.nm=true
  ·rw[if_pos h1]
   by_cases h2:1<=a.k/\a.k<=3
   ·rw[if_pos h2]
    by_cases h3:a.nm∈seen
    ·rw[if_pos h3]
     constructor
     ·intro h;cases h
     ·intro h;exact absurd h3 (h.2.2 a (by simp))
    ·rw[if_neg h3,A9w]
     simp only[I9,Q4,A29,P0,s8,or_false,not_or]
     constructor
     ·rintro⟨g1,g2,g3⟩
      refine⟨λc hc=>?_,⟨λhm=>?_,g2⟩,λc hc=>?_⟩
      ·rcases hc with rfl|hc
       ·exact⟨h1,h2.1,h2.2⟩
       ·exact g1 c hc
      ·obtain⟨c,hc,e⟩:=F2.1 hm
       exact(g3 c hc).2 e
      ·rcases hc with rfl|hc
       ·exact h3
       ·exact(g3 c hc).1
     ·rintro⟨g1,⟨g2,g3⟩,g4⟩
      exact⟨λc hc=>g1 c (.inr hc),g3,λc hc=>⟨g4 c (.inr hc),λe=>g2 (F2.2 ⟨c,hc,e⟩)⟩⟩
   ·rw[if_neg h2]
    constructor
    ·intro h;cases h
    ·intro h;exact absurd (h.1 a (by simp)).2 h2
  ·rw[if_neg h1]
   constructor
   ·intro h;cases h
   ·intro h;exact absurd (h.1 a (by simp)).1 h1
theorem A9X{l:List Co}:∀{ks:List Int}{p:Option Int},c9 l p ks=0↔(∀k∈ks,0<=k/\k<l.length/\(l.getD k.toNat ⟨[],0,false⟩).nl=false)/\ks.Pairwise (·<·)/\∀q,p=some q->∀k∈ks,q<k
 |[],p=>by simp[c9]
 |a::r,p=>by
  have ih:=A9X (l:=l) (ks:=r) (p:=some a)
  unfold c9
  by_cases h1:0<=a/\a<l.length
  ·rw[if_pos h1]
   have key:(if (l.getD a.toNat ⟨[],0,false⟩).nl=true then 12 else c9 l (some a) r)=0↔(l.getD a.toNat ⟨[],0,false⟩).nl=false/\c9 l (some a) r=0:=by
    cases hh:(l.getD a.toNat ⟨[],0,false⟩).nl with
    |true=>simp
    |false=>simp
   cases p with
   |none=>
    dsimp only
    rw[key,ih]
    simp only[I9,s9,forall_eq_or_imp]
    constructor
    ·rintro⟨g1,g2,g3,g4⟩
     exact⟨⟨⟨h1.1,h1.2,g1⟩,g2⟩,⟨g4 a rfl,g3⟩,λq hq=>by cases hq⟩
    ·rintro⟨⟨g1,g2⟩,⟨g3,g4⟩,g5⟩
     exact⟨g1.2.2,g2,g4,λq hq k hk=>by cases hq;exact g3 k hk⟩
   |some q=>
    dsimp only
    by_cases h2:a<=q
    ·rw[if_pos h2]
     constructor
     ·intro h;cases h
     ·intro h
      have:=h.2.2 q rfl a (by simp)
      omega
    ·rw[if_neg h2,key,ih]
     simp only[I9,s9,forall_eq_or_imp]
     constructor
     ·rintro⟨g1,g2,g3,g4⟩
      refine⟨⟨⟨h1.1,h1.2,g1⟩,g2⟩,⟨g4 a rfl,g3⟩,λq' hq=>?_⟩
      cases hq
      exact⟨by omega,λk hk=>by have:=g4 a rfl k hk;omega⟩
     ·rintro⟨⟨g1,g2⟩,⟨g3,g4⟩,g5⟩
      exact⟨g1.2.2,g2,g4,λq' hq k hk=>by cases hq;exact g3 k hk⟩
  ·rw[if_neg h1]
   constructor
   ·intro h;cases h
   ·intro h;exact absurd ⟨(h.1 a (by simp)).1,(h.1 a (by simp)).2.1⟩ h1
theorem B6U{n:Nat}:∀{l seen:List Int},m9 n seen l=0↔(∀c∈l,0<=c/\c<n)/\l.Nodup/\∀c∈l,¬c∈seen
 |[],seen=>by simp[m9]
 |a::r,seen=>by
  unfold m9
  by_cases h:(0<=a/\a<n)/\¬a∈seen
  ·rw[if_pos h,B6U]
   simp only[I9,A29,P0,s8,or_false,not_or,forall_eq_or_imp]
   constructor
   ·rintro⟨g1,g2,g3⟩
    exact⟨⟨h.1,g1⟩,⟨λhm=>(g3 a hm).2 rfl,g2⟩,h.2,λc hc=>(g3 c hc).1⟩
   ·rintro⟨⟨g1,g2⟩,⟨g3,g4⟩,g5,g6⟩
    exact⟨g2,g4,λc hc=>⟨g6 c hc,λe=>g3 (e▸hc)⟩⟩
  ·rw[if_neg h]
   constructor
   ·intro h;cases h
   ·intro hh;exact absurd ⟨hh.1 a (by simp),hh.2.2 a (by simp)⟩ h
theorem A9O{n:Nat}:∀{l:List Fo},V7 n l=0↔∀f∈l,L2 f.tb=true/\f.cs≠[]/\(∀c∈f.cs,0<=c/\c<n)/\f.cs.Nodup
 |[]=>by simp[V7]
 |f::r=>by
  have h1:A0j n f=0↔L2 f.tb=true/\f.cs≠[]/\(∀c∈f.cs,0<=c/\c<n)/\f.cs.Nodup:=by
   unfold A0j
   by_cases g1:L2 f.tb=true
   ·rw[if_pos g1]
    by_cases g2:f.cs.length=0
    ·rw[if_pos g2]
     constructor
     ·intro h;cases h
     ·intro h;exact absurd (A28.1 g2) h.2.1
    ·rw[if_neg g2,B6U]
     constructor
     ·rintro⟨a,b,_⟩;exact⟨g1,λe=>g2 (by rw[e];rfl),a,b⟩
     ·rintro⟨_,_,a,b⟩;exact⟨a,b,by simp⟩
   ·rw[if_neg g1]
    constructor
    ·intro h;cases h
    ·intro h;exact absurd h.1 g1
  unfold V7
  simp only[I9,forall_eq_or_imp]
  rw[<- h1,<- A9O (l:=r)]
  by_cases h2:A0j n f=0
  ·rw[if_pos h2];simp[h2]
  ·rw[if_neg h2];simp[h2]
theorem C9d{ks:List Int}{x:Ex}:A0g ks x=0↔L9 x<=24/\(G7 ks x).2=0/\((G7 ks x).1=3\/(G7 ks x).1=0):=by
 unfold A0g A18
 by_cases h1:24<L9 x
 ·rw[if_pos h1]
  constructor
  ·intro h;simp at h
  ·intro h;omega
 ·rw[if_neg h1]
  by_cases h2:(G7 ks x).2=0
  ·rw[if_pos h2]
   by_cases h3:(G7 ks x).1=3\/(G7 ks x).1=0
   ·rw[if_pos h3];simp[h2,h3];omega
   ·rw[if_neg h3];simp[h3]
  ·rw[if_neg h2];simp[h2]
theorem A9p{ks:List Int}:∀{l:List Ex},t8 ks l=0↔∀x∈l,L9 x<=24/\(G7 ks x).2=0/\((G7 ks x).1=3\/(G7 ks x).1=0)
 |[]=>by simp[t8]
 |f::r=>by
  unfold t8
  simp only[I9,forall_eq_or_imp]
  rw[<- C9d,<- A9p (l:=r)]
  by_cases h2:A0g ks f=0
  ·rw[if_pos h2];simp[h2]
  ·rw[if_neg h2];simp[h2]
theorem A0t{t:Tb}:J0 t=0↔Vd t:=by
 constructor
 ·intro h
  obtain⟨h1,h2,h3,h4⟩:=B9r h
  obtain⟨l1,l2,h5⟩:=B6s h2
  obtain⟨c1,c2,_⟩:=A9w.1 h5
  unfold A0l at h3
  have k0:t.ks.length≠0:=by intro e;rw[if_pos e] at h3;cases h3
  rw[if_neg k0] at h3
  obtain⟨k1,k2,_⟩:=A9X.1 h3
  unfold A1a at h4
  have f0:t.fs.length<=4:=by
   by_cases e:t.fs.length<=4
   ·exact e
   ·rw[if_neg e] at h4;cases h4
  rw[if_pos f0] at h4
  by_cases f1:V7 t.cs.length t.fs=0
  ·rw[if_pos f1] at h4
   unfold A17 at h4
   have x0:t.xs.length<=4:=by
    by_cases e:t.xs.length<=4
    ·exact e
    ·rw[if_neg e] at h4;cases h4
   rw[if_pos x0] at h4
   exact⟨h1,l1,l2,c1,c2,λe=>k0 (by rw[e];rfl),k1,k2,f0,A9O.1 f1,x0,A9p.1 h4⟩
  ·rw[if_neg f1] at h4;exact absurd h4 f1
 ·intro h
  have h2:u4 t.cs=0:=by
   unfold u4
   rw[if_pos ⟨h.l1,h.l2⟩]
   exact A9w.2 ⟨h.co,h.nd,by simp⟩
  have h3:A0l t.cs t.ks=0:=by
   unfold A0l
   rw[if_neg (λe=>h.k0 (A28.1 e))]
   exact A9X.2 ⟨h.ks,h.ka,λq hq=>by cases hq⟩
  have h4:A1a t=0:=by
   unfold A1a A17
   rw[if_pos h.fl,if_pos (A9O.2 h.fs),if_pos h.xl]
   exact A9p.2 h.xs
  unfold J0
  rw[if_pos h.nm,if_pos h2,if_pos h3,h4]
end Go.Proofs
end
