/- Texts of this claim, joined. No condition. -/
import Derived.Test.YtlkkaepbnnakpaaGreatDoorQ8
set_option linter.unusedSimpArgs false
set_option linter.unusedVariables false
set_option maxRecDepth 10000
set_option maxHeartbeats 4000000
section
namespace Go.Proofs
open Go.Bi
structure St where
 x:TD
 y:TD
 c:Ch
abbrev St.ds(s:St):List D:=[.str s.x.t.nm,s.x.dc,s.x.dk,s.x.df,s.x.dx,.str s.y.t.nm,s.y.dc,s.y.dk,s.y.df,s.y.dx,eI s.c.k,.str s.c.nm,.str s.c.to,.str s.c.co.nm,eI s.c.co.k,.bool s.c.co.nl,eI s.c.df.k,eI s.c.df.n,.str s.c.df.s]
abbrev St.av(s:St):AV:=.agg [.d (.str s.x.t.nm),.d s.x.dc,.d s.x.dk,.d s.x.df,.d s.x.dx,.d (.str s.y.t.nm),.d s.y.dc,.d s.y.dk,.d s.y.df,.d s.y.dx,.d (eI s.c.k),.d (.str s.c.nm),.d (.str s.c.to),.d (.str s.c.co.nm),.d (eI s.c.co.k),.d (.bool s.c.co.nl),.d (eI s.c.df.k),.d (eI s.c.df.n),.d (.str s.c.df.s)]
def TD.to(x:TD)(c:Ch):TD:=if D2 x.t c=0 then x.evo c else r9
theorem TD.to_ok{x:TD}(h:x.ok){c:Ch}(hc:G7 c):(x.to c).ok:=by
 unfold TD.to
 split
 ·exact TD.evo_ok h hc (by assumption)
 ·exact B1D
theorem A8y(x:TD)(h:x.ok)(c:Ch)(hc:G7 c):Pure Tryz.prog A78 [x.av,c.av] (.tup [(St.mk x (x.to c) c).av,.d (.bool (decide (D2 x.t c=0)))]):=by
 have hA:Bi.Pure Tryz.prog R3 [x.av,c.av] (.tup [(x.to c).av,.d (eI (D2 x.t c))]):=by
  unfold TD.to
  by_cases hq:D2 x.t c=0
  ·rw[if_pos hq,hq];exact C1c x h c hc hq
  ·rw[if_neg hq];exact C1d x h c hc hq
 obtain⟨y,hy⟩:∃y,y=x.to c:=⟨_,rfl⟩
 rw[<- hy] at hA ⊢
 obtain⟨e,he⟩:∃e,e=D2 x.t c:=⟨_,rfl⟩
 rw[<- he] at hA ⊢
 have hA:Bi.Pure Tryz.prog R3 [x.av,c.av] (.tup [eT y.t.nm y.dc y.dk y.df y.dx,.d (eI e)]):=hA
 obtain⟨⟨nm,cs,ks,fs,xs⟩,dc,dk,df,dx⟩:=x
 obtain⟨k,cnm,to,⟨cn,ck,cl⟩,⟨vk,vn,vs⟩⟩:=c
 clear he hy
 refine C3I.go A6 rfl ?_
 repeat' first|refine st ?_|((with_reducible first|apply A8|apply A7);(·exact hA))|(with_reducible first|apply A5|apply A4)<;>intro _
 all_goals rfl
def plI(t:Tb)(c:Ch):Int:=if c.k=1 then t.cs.length else D6 c.nm t.cs
theorem A8z(s:St)(h:s.x.ok):Pure Tryz.prog B5U [s.av] (.d (eI (plI s.x.t s.c))):=by
 have hF:=R8 s.x.t.nm s.x.t.cs h.tok.hl s.x.dc s.x.dk s.x.df s.x.dx h.tok.dc s.c.nm
 have hdc:=h.tok.dc
 have hcl:=F4 s.x.t.cs
 have hl:=h.tok.hl
 obtain⟨q,hq⟩:∃q,q=plI s.x.t s.c:=⟨_,rfl⟩
 rw[<- hq]
 unfold plI at hq
 obtain⟨f,hf⟩:∃f,f=D6 s.c.nm s.x.t.cs:=⟨_,rfl⟩
 rw[<- hf] at hF hq
 obtain⟨Cs,hCs⟩:∃z,z=B2 s.x.t.cs:=⟨_,rfl⟩
 rw[<- hCs] at hdc hcl
 clear hf hCs h
 obtain⟨⟨⟨nm,cs,ks,fs,xs⟩,dc,dk,df,dx⟩,y,⟨k,cnm,to,⟨cn,ck,cl⟩,⟨vk,vn,vs⟩⟩⟩:=s
 dsimp only at hq hF hdc hcl hl
 by_cases h1:k=1
 ·rw[if_pos h1] at hq
  subst hq
  refine B2j.go A6 rfl ?_
  repeat' first|refine st ?_|(with_reducible first|apply A5|apply A4)<;>intro _
  all_goals first|rfl|(rw[hcl];rfl)|rw[hcl]
 ·rw[if_neg h1] at hq
  subst hq
  refine B2j.go A6 rfl ?_
  repeat' first|refine st ?_|((with_reducible first|apply A8|apply A7);(·exact hF))|(with_reducible first|apply A5|apply A4)<;>intro _
  all_goals rfl
def J3(x:TD):List Ch->List St
 |[]=>[]
 |c::r=>⟨x,x.to c,c⟩::J3 (x.to c) r
def M3(x:TD):List Ch->Bool
 |[]=>true
 |c::r=>decide (D2 x.t c=0)&&M3 (x.to c) r
def O0(x:TD)(l:List Ch):Bool:=decide (K8 x.t=0)&&M3 x l
theorem A22:∀(l:List Ch)(x:TD),(J3 x l).length=l.length
 |[],_=>rfl
 |c::r,x=>by rw[J3,I7,I7,A22 r]
def P6(l:List St):List (List D):=l.map St.ds
theorem B08(l:List St):(P6 l).length=l.length:=by simp[P6]
theorem B7j{l:List St}{i:Nat}{s:St}(h:l[i]?=some s):(P6 l)[i]?=some s.ds:=by simp[P6,h]
theorem B09(l:List St):∀e∈P6 l,e.length=19:=by
 intro e he
 obtain⟨x,_,rfl⟩:=F1.1 he
 rfl
def I3(x:TD):List Ch->TD
 |[]=>x
 |c::r=>I3 (x.to c) r
theorem A33:∀(l:List Ch){x:TD},x.ok->(∀c∈l,G7 c)->(I3 x l).ok
 |[],x,h,_=>h
 |c::r,x,h,hc=>A33 r (TD.to_ok h (hc c (by simp))) λd hd=>hc d (by simp[hd])
theorem A5p:∀(l:List Ch)(x:TD)(c:Ch),I3 x (l++[c])=(I3 x l).to c
 |[],x,c=>rfl
 |d::r,x,c=>A5p r (x.to d) c
theorem v7:∀{l:List Ch}{x:TD}{i:Nat}{c:Ch},l[i]?=some c->(J3 x l)[i]?=some ⟨I3 x (l.take i),(I3 x (l.take i)).to c,c⟩
 |[],x,i,c,h=>by simp at h
 |a::r,x,0,c,h=>by simp at h;subst h;rfl
 |a::r,x,i+1,c,h=>by
  rw[j0] at h
  rw[J3,j0,v7 h];rfl
theorem D3d{x:TD}{l:List Ch}{i:Nat}{c:Ch}(h:l[i]?=some c):M3 x (l.drop i)=(decide (D2 x.t c=0)&&M3 (x.to c) (l.drop (i+1))):=by
 obtain⟨hlt,he⟩:=B3.1 h
 rw[S5 hlt,he,M3]
theorem A8e{l:List Ch}{i:Nat}{c:Ch}(h:l[i]?=some c):l.take (i+1)=l.take i++[c]:=by rw[Q9,h];rfl
theorem A8A(x:TD)(h:x.ok)(l:List Ch)(hl:l.length<=1048576)(hls:∀c∈l,G7 c)(d:D)(hd:B8 d (M9 l)) :
  Pure Tryz.prog B5V [x.av,.d d] (.tup [.d (if O0 x l then C2 (P6 (J3 x l)).isEmpty (P6 (J3 x l)) else .nil),.d (.bool (O0 x l))]):=by
 have hT:=B23 x.t x.dc x.dk x.df x.dx h.tok
 obtain⟨R,hR⟩:∃R,R=(if O0 x l then C2 (P6 (J3 x l)).isEmpty (P6 (J3 x l)) else .nil):=⟨_,rfl⟩
 obtain⟨b,hb⟩:∃R,R=O0 x l:=⟨_,rfl⟩
 rw[<- hR,<- hb]
 rw[<- hb] at hR
 unfold O0 at hb
 have h1:=A1L l
 have hm:=A3Y l
 have hg0:=λi c=>@A5v l i c
 obtain⟨es,hes⟩:∃es,es=M9 l:=⟨_,rfl⟩
 rw[<- hes] at h1 hm hd hg0
 by_cases hq:K8 x.t=0
 rotate_left
 ·rw[decide_eq_false hq,Bool.false_and] at hb
  subst hb
  rw[if_neg (by decide)] at hR
  subst hR
  obtain⟨q,hqq⟩:∃q,q=K8 x.t:=⟨_,rfl⟩
  rw[<- hqq] at hT hq
  refine B2k.go A6 rfl ?_
  repeat' first|refine st ?_|((with_reducible first|apply A8|apply A7);(·exact hT))|(with_reducible first|apply A5|apply A4)<;>intro _
  all_goals rfl
 ·rw[decide_eq_true hq,w6] at hb
  rw[hq] at hT
  obtain⟨S,hS⟩:∃S,S=J3 x l:=⟨_,rfl⟩
  rw[<- hS] at hR
  have hSl:S.length=l.length:=by rw[hS];exact A22 l x
  obtain⟨x0,hx0⟩:∃z,z=x:=⟨_,rfl⟩
  have hSg:∀(i:Nat) c,l[i]?=some c->S[i]?=some ⟨I3 x0 (l.take i),(I3 x0 (l.take i)).to c,c⟩:=λi c hc=>by rw[hS,hx0];exact v7 hc
  have hok0:∀i,(I3 x0 (l.take i)).ok:=λi=>by rw[hx0];exact A33 _ h λc hc=>hls c (W3 hc)
  have hst:I3 x0 (l.take 0)=x:=by rw[hx0];rfl
  clear hx0 hS h
  refine B2k.go A6 rfl ?_
  obtain⟨⟨nm,cs,ks,fs,xs⟩,dc,dk,df,dx⟩:=x
  have hT:Bi.Pure Tryz.prog A9p [eT nm dc dk df dx] (.d (eI 0)):=hT
  repeat' first|refine st ?_|((with_reducible first|apply A8|apply A7);(·exact hT))|(with_reducible first|apply A5|apply A4)<;>intro _
  refine A1t 6 19 rfl rfl ?_
  refine J1 A6 C68 C5e (λ(i:Nat) (w:List (List D)×TD)=>[.arr 1 w.1.length,.d (eI i)]) (λi w=>[.cells [.d (.str w.2.t.nm),.d w.2.dc,.d w.2.dk,.d w.2.df,.d w.2.dx],.arr w.1 19 0 w.1.isEmpty]) (λi w=>i<=l.length/\w.1=P6 (S.take i)/\w.2=I3 x0 (l.take i)/\b=M3 w.2 (l.drop i)) (λi w=>l.length-i) 0 ([],⟨⟨nm,cs,ks,fs,xs⟩,dc,dk,df,dx⟩) rfl rfl rfl rfl (λ_ _ _=>⟨rfl,rfl⟩) rfl ⟨by omega,rfl,hst.symm,hb⟩ ?_
  repeat' first|refine st ?_|(with_reducible first|apply A5|apply A4)<;>intro _
  intro i w ⟨g1,g2,g3,g4⟩
  obtain⟨A,y⟩:=w
  dsimp only at g2 g3 g4 ⊢
  have hAl:A.length=i:=by rw[g2,B08,L6];omega
  have hAm:∀e∈A,e.length=19:=by rw[g2];exact B09 _
  cases hx:l[i]? with
  |some c=>
   have hlt:=(B3.1 hx).1
   have hcok:=hls c (C4 hx)
   have hg:=hg0 i c hx
   have hyok:=hok0 i
   have hSi:=hSg i c hx
   rw[<- g3] at hyok hSi
   rw[D3d hx] at g4
   have hN:=A8y y hyok c hcok
   have hs:A++[(St.mk y (y.to c) c).ds]=P6 (S.take (i+1)):=by rw[g2,Q9,hSi];simp[P6]
   have hc1:I3 x0 (l.take (i+1))=y.to c:=by rw[A8e hx,A5p,<- g3]
   obtain⟨z,hz⟩:∃z,z=y.to c:=⟨_,rfl⟩
   rw[<- hz] at hN hs hc1 g4
   by_cases he:D2 y.t c=0
   ·rw[decide_eq_true he] at hN g4
    rw[w6] at g4
    obtain⟨ck,cnm,to,⟨cn,cck,cl⟩,⟨vk,vn,vs⟩⟩:=c
    have hN:Bi.Pure Tryz.prog A78 [eT y.t.nm y.dc y.dk y.df y.dx,chD ck cnm to cn cck cl vk vn vs] (.tup [(St.mk y z ⟨ck,cnm,to,⟨cn,cck,cl⟩,⟨vk,vn,vs⟩⟩).av,.d (.bool true)]):=hN
    clear g2 g3 hR hb
    repeat' first|refine st ?_|((with_reducible first|apply A8|apply A7);(·exact hN))|(with_reducible first|apply A5|apply A4)<;>intro _
    exact⟨i+1,(A++[_],z),rfl,rfl,by first|rfl|(simp;done),by omega,by omega,hs,hc1.symm,g4⟩
   ·rw[decide_eq_false he] at hN g4
    rw[Bool.false_and] at g4
    subst g4
    rw[if_neg (by decide)] at hR
    subst hR
    obtain⟨ck,cnm,to,⟨cn,cck,cl⟩,⟨vk,vn,vs⟩⟩:=c
    have hN:Bi.Pure Tryz.prog A78 [eT y.t.nm y.dc y.dk y.df y.dx,chD ck cnm to cn cck cl vk vn vs] (.tup [(St.mk y z ⟨ck,cnm,to,⟨cn,cck,cl⟩,⟨vk,vn,vs⟩⟩).av,.d (.bool false)]):=hN
    clear g2 g3
    repeat' first|refine st ?_|((with_reducible first|apply A8|apply A7);(·exact hN))|(with_reducible first|apply A5|apply A4)<;>intro _
    all_goals rfl
  |none=>
   have hge:=D8.1 hx
   rw[A1x hge] at g4
   rw[M7 (by omega)] at g2
   have g4:b=true:=g4
   subst g4
   rw[if_pos rfl,<- g2] at hR
   subst hR
   clear g2 hb
   repeat' first|refine st ?_|(with_reducible first|apply A5|apply A4)<;>intro _
   all_goals first|rfl|(cases A<;>rfl)
def V4(l:List TD):List (List D):=l.map λx=>[.str x.t.nm,x.dc,x.dk,x.df,x.dx]
theorem A41(l:List TD):(V4 l).length=l.length:=by simp[V4]
theorem A37(l:List TD):∀e∈V4 l,e.length=5:=by
 intro e he
 obtain⟨x,_,rfl⟩:=F1.1 he
 rfl
theorem A5w{l:List TD}{i:Nat}{x:TD}(h:l[i]?=some x):(V4 l)[i]?=some [.str x.t.nm,x.dc,x.dk,x.df,x.dx]:=by simp[V4,h]
def v8(x:TD)(l:List Ch):List TD:=x.cp::(J3 x l).map λs=>s.y.cp
def A6l(x:TD)(l:List Ch):D:=if O0 x l then .sl (V4 (v8 x l)) else .nil
theorem B20(ks:List Int)(hk:ks.length<=1048576)(hb:∀k∈ks,0<=k/\k<=1048576)(i:Int)(d:D)(hd:B8 d (A0 ks)):Pure Tryz.prog B5r [.d d,.d (eI i)] (.d (.sl (A0 (ks.map λc=>B0 c i)))):=by
 refine C3b.go A6 rfl ?_
 have h1:=B7 ks
 obtain⟨R,hR⟩:∃R,R=A0 (ks.map λc=>B0 c i):=⟨_,rfl⟩
 rw[<- hR]
 repeat' first|refine st ?_|((with_reducible apply C7);conv=>whnf)|(with_reducible first|apply A5|apply A4)<;>intro _
 refine J1 A6 C5S C4Y (λ(j:Nat) (es:List (List D))=>[.arr 0 es.length,.d (eI j)]) (λj es=>[.arr es 1 0 false]) (λj es=>j<=ks.length/\es=A0 ((ks.take j).map λc=>B0 c i)) (λj _=>ks.length-j) 0 [] rfl rfl rfl rfl (λ_ _ _=>⟨rfl,rfl⟩) rfl ⟨by omega,rfl⟩ ?_
 repeat' first|refine st ?_|((with_reducible apply C7);conv=>whnf)|(with_reducible first|apply A5|apply A4)<;>intro _
 intro j es ⟨h2,h3⟩
 have hes:es.length=j:=by rw[h3,B7,D5,L6];omega
 have hem:∀e∈es,e.length=1:=by rw[h3];exact D3 _
 cases hx:ks[j]? with
 |some c=>
  have hlt:=(B3.1 hx).1
  have hg:=N4 hx
  obtain⟨b1,b2⟩:=hb c (C4 hx)
  have hs:es++[[eI (B0 c i)]]=A0 ((ks.take (j+1)).map λc=>B0 c i):=by rw[h3,Q9,hx];simp[A0]
  unfold B0 at hs
  by_cases hc:i<c
  ·rw[if_pos hc] at hs
   clear h3
   repeat' first|refine st ?_|((with_reducible apply C7);conv=>whnf)|(with_reducible first|apply A5|apply A4)<;>intro _
   exact⟨j+1,es++[[eI (c-1)]],rfl,rfl,rfl,by omega,by omega,hs⟩
  ·rw[if_neg hc] at hs
   clear h3
   repeat' first|refine st ?_|((with_reducible apply C7);conv=>whnf)|(with_reducible first|apply A5|apply A4)<;>intro _
   exact⟨j+1,es++[[eI c]],rfl,rfl,rfl,by omega,by omega,hs⟩
 |none=>
  have hge:=D8.1 hx
  rw[M7 hge,<- hR] at h3
  subst h3
  repeat' first|refine st ?_|((with_reducible apply C7);conv=>whnf)|(with_reducible first|apply A5|apply A4)<;>intro _
  all_goals rfl
theorem C1O(i:Nat):∀e:Ex,e.bk<=1048576->e.Rg->Pure Tryz.prog B5s [e.av,.d (eI i)] (M8 i e).av:=by
 refine Ex.ind λop n v nm nl args ih hb hr=>?_
 obtain⟨b1,b2,b3,b4⟩:=Ex.bk_bounds hb
 cases hr with
 |mk r1 r2 hra=>
 rw[A2l,Ex.av_mk]
 have h1:=I6 args
 have hm:=O7 args
 obtain⟨da,hda⟩:∃d,d=ng nl (xL args):=⟨_,rfl⟩
 have hsd:B8 da (xL args):=by rw[hda];exact p8
 rw[<- hda]
 have r0:v.k=v.k:=rfl
 have r1':v.s=v.s:=rfl
 have r2':nm=nm:=rfl
 have q1:IntKind.i64.min=-9223372036854775808:=rfl
 have q2:IntKind.i64.max=9223372036854775807:=rfl
 obtain⟨n',hn'⟩:∃n',n'=(if op=2 then B0 n i else n):=⟨_,rfl⟩
 rw[<- hn',Ex.av_mk,A7T]
 have key:(op=2/\(i:Int)<n/\n-1=n')\/(op=2/\¬(i:Int)<n/\n=n')\/(op≠2/\n=n'):=by
  by_cases h2:op=2
  ·rw[if_pos h2] at hn'
   unfold B0 at hn'
   by_cases h3:(i:Int)<n
   ·rw[if_pos h3] at hn';exact .inl ⟨h2,h3,hn'.symm⟩
   ·rw[if_neg h3] at hn';exact .inr (.inl ⟨h2,h3,hn'.symm⟩)
  ·rw[if_neg h2] at hn';exact .inr (.inr ⟨h2,hn'.symm⟩)
 clear hn'
 refine C3c.go A6 rfl ?_
 rcases key with ⟨g1,g2,rfl⟩|⟨g1,g2,rfl⟩|⟨g1,rfl⟩
 ·subst g1
  repeat' first|refine st ?_|((with_reducible apply C7);conv=>whnf)|(with_reducible first|apply A5|apply A4)<;>intro _
  refine A2B 2 6 7 rfl rfl rfl ?_
  refine J1 A6 B4U B4J (λ(j:Nat) (w:List (List D)×Bool)=>[.d (eI j)]) (λj w=>[.cells [.d (eI 2),.d (eI n),.d (eI v.k),.d (eI v.n),.d (.str v.s),.d (.str nm),.d da],.cells [.d (eI 0),.d (eI 0),.d (eI 0),.d (eI 0),.d (.str []),.d (.str []),.d .nil],.cells [.d (eI 2),.d (eI (n-1)),.d (eI v.k),.d (eI v.n),.d (.str v.s),.d (.str nm),.arr 3 w.1.length],.arr w.1 7 0 w.2]) (λj w=>j<=args.length/\w.1=Mt (M8 i) args j/\w.2=w.1.isEmpty) (λj w=>args.length-j) 0 ([],true) rfl rfl rfl rfl (λ_ _ _=>⟨rfl,rfl⟩) rfl ⟨by omega,rfl,rfl⟩ ?_
  repeat' first|refine st ?_|((with_reducible apply C7);conv=>whnf)|(with_reducible first|apply A5|apply A4)<;>intro _
  intro j w ⟨h4,h5,h6⟩
  obtain⟨A,b⟩:=w
  dsimp only at h5 h6 ⊢
  have hAl:A.length=j:=by rw[h5];exact x5 _ args j (by omega)
  have hAm:∀e∈A,e.length=7:=by rw[h5];exact x6 _ _ _
  cases hx:args[j]? with
  |some x=>
   have hlt:=(B3.1 hx).1
   have hs:=x7 (φ:=M8 i) hx
   have hg:=r8 hx
   have hi:=ih x (C4 hx) (b4 x (C4 hx)) (hra x (C4 hx))
   rw[<- h5] at hs
   obtain⟨z,hz⟩:∃z,z=M8 i x:=⟨_,rfl⟩
   rw[<- hz] at hs hi
   obtain⟨o1,n1,v1,m1,l1,a1⟩:=x
   obtain⟨o2,n2,v2,m2,l2,a2⟩:=z
   rw[Ex.ds_mk] at hg hs
   rw[Ex.av_mk,Ex.av_mk] at hi
   repeat' first|refine st ?_|((with_reducible apply C7);conv=>whnf)|((with_reducible first|apply A8|apply A7);(·exact hi))|(with_reducible first|apply A5|apply A4)<;>intro _
   exact⟨j+1,(A++[W0 o2 n2 v2 m2 (ng l2 (xL a2))],false),rfl,rfl,rfl,by omega,by omega,hs,by simp⟩
  |none=>
   have hge:=D8.1 hx
   rw[x4 hge] at h5
   rw[<- h5,<- h6]
   cases b with
   |true=>
    rw[if_pos rfl]
    repeat' first|refine st ?_|((with_reducible apply C7);conv=>whnf)|(with_reducible first|apply A5|apply A4)<;>intro _
    all_goals rfl
   |false=>
    rw[if_neg (by simp)]
    repeat' first|refine st ?_|((with_reducible apply C7);conv=>whnf)|(with_reducible first|apply A5|apply A4)<;>intro _
    all_goals rfl
 all_goals
  repeat' first|refine st ?_|((with_reducible apply C7);conv=>whnf)|(with_reducible first|apply A5|apply A4)<;>intro _
  refine A2B 2 6 7 rfl rfl rfl ?_
  refine J1 A6 B4U B4J (λ(j:Nat) (w:List (List D)×Bool)=>[.d (eI j)]) (λj w=>[.cells [.d (eI op),.d (eI n),.d (eI v.k),.d (eI v.n),.d (.str v.s),.d (.str nm),.d da],.cells [.d (eI 0),.d (eI 0),.d (eI 0),.d (eI 0),.d (.str []),.d (.str []),.d .nil],.cells [.d (eI op),.d (eI n),.d (eI v.k),.d (eI v.n),.d (.str v.s),.d (.str nm),.arr 3 w.1.length],.arr w.1 7 0 w.2]) (λj w=>j<=args.length/\w.1=Mt (M8 i) args j/\w.2=w.1.isEmpty) (λj w=>args.length-j) 0 ([],true) rfl rfl rfl rfl (λ_ _ _=>⟨rfl,rfl⟩) rfl ⟨by omega,rfl,rfl⟩ ?_
  repeat' first|refine st ?_|((with_reducible apply C7);conv=>whnf)|(with_reducible first|apply A5|apply A4)<;>intro _
  intro j w ⟨h4,h5,h6⟩
  obtain⟨A,b⟩:=w
  dsimp only at h5 h6 ⊢
  have hAl:A.length=j:=by rw[h5];exact x5 _ args j (by omega)
  have hAm:∀e∈A,e.length=7:=by rw[h5];exact x6 _ _ _
  cases hx:args[j]? with
  |some x=>
   have hlt:=(B3.1 hx).1
   have hs:=x7 (φ:=M8 i) hx
   have hg:=r8 hx
   have hi:=ih x (C4 hx) (b4 x (C4 hx)) (hra x (C4 hx))
   rw[<- h5] at hs
   obtain⟨z,hz⟩:∃z,z=M8 i x:=⟨_,rfl⟩
   rw[<- hz] at hs hi
   obtain⟨o1,n1,v1,m1,l1,a1⟩:=x
   obtain⟨o2,n2,v2,m2,l2,a2⟩:=z
   rw[Ex.ds_mk] at hg hs
   rw[Ex.av_mk,Ex.av_mk] at hi
   repeat' first|refine st ?_|((with_reducible apply C7);conv=>whnf)|((with_reducible first|apply A8|apply A7);(·exact hi))|(with_reducible first|apply A5|apply A4)<;>intro _
   exact⟨j+1,(A++[W0 o2 n2 v2 m2 (ng l2 (xL a2))],false),rfl,rfl,rfl,by omega,by omega,hs,by simp⟩
  |none=>
   have hge:=D8.1 hx
   rw[x4 hge] at h5
   rw[<- h5,<- h6]
   cases b with
   |true=>
    rw[if_pos rfl]
    repeat' first|refine st ?_|((with_reducible apply C7);conv=>whnf)|(with_reducible first|apply A5|apply A4)<;>intro _
    all_goals rfl
   |false=>
    rw[if_neg (by simp)]
    repeat' first|refine st ?_|((with_reducible apply C7);conv=>whnf)|(with_reducible first|apply A5|apply A4)<;>intro _
    all_goals rfl
theorem C1L(t:Tb)(dc dk df dx:D)(h:M6 t dc dk df dx)(c:Ch)(hc:G7 c)(k:Int):Pure Tryz.prog B5p [eT t.nm dc dk df dx,c.av,.d (eI k)] (.d (eI (R6 t c k))):=by
 have hC:=A6C t dc dk df dx h c hc
 have hF:=A1v t.nm t.cs h.hl dc dk df dx h.dc c.nm
 have hl:=h.hl
 have hdc:=h.dc
 have hcl:=F4 t.cs
 obtain⟨q,hq⟩:∃q,q=R6 t c k:=⟨_,rfl⟩
 rw[<- hq]
 unfold R6 at hq
 obtain⟨e,he⟩:∃e,e=D2 t c:=⟨_,rfl⟩
 rw[<- he] at hC hq
 obtain⟨f,hf⟩:∃f,f=D6 c.nm t.cs:=⟨_,rfl⟩
 rw[<- hf] at hF hq
 obtain⟨n,hn⟩:∃n,n=t.cs.length:=⟨_,rfl⟩
 rw[<- hn] at hcl hl hq
 obtain⟨Cs,hCs⟩:∃x,x=B2 t.cs:=⟨_,rfl⟩
 rw[<- hCs] at hcl hdc
 clear h hf he hn hCs
 obtain⟨ck,nm,to,⟨cn,cck,cl⟩,⟨vk,vn,vs⟩⟩:=c
 dsimp only at hq hF hC
 by_cases g1:e≠0\/k<0\/(n:Int)<=k
 ·rw[if_pos g1] at hq
  subst hq
  by_cases g2:e=0
  rotate_left
  ·refine A2D.go A6 rfl ?_
   repeat' first|refine st ?_|((with_reducible apply C7);conv=>whnf)|((with_reducible first|apply A8|apply A7);(·exact hC))|(with_reducible first|apply A5|apply A4)<;>intro _
   all_goals rfl
  by_cases g3:k<0
  ·refine A2D.go A6 rfl ?_
   repeat' first|refine st ?_|((with_reducible apply C7);conv=>whnf)|((with_reducible first|apply A8|apply A7);(·exact hC))|(with_reducible first|apply A5|apply A4)<;>intro _
   all_goals rfl
  have g4:(n:Int)<=k:=by omega
  refine A2D.go A6 rfl ?_
  repeat' first|refine st ?_|((with_reducible apply C7);conv=>whnf)|((with_reducible first|apply A8|apply A7);(·exact hC))|(with_reducible first|apply A5|apply A4)<;>intro _
  all_goals rfl
 ·rw[if_neg g1] at hq
  have g2:e=0:=by omega
  have g3:0<=k:=by omega
  have g4:k<n:=by omega
  subst g2
  by_cases g5:ck=2
  rotate_left
  ·rw[if_pos g5] at hq
   subst hq
   refine A2D.go A6 rfl ?_
   repeat' first|refine st ?_|((with_reducible apply C7);conv=>whnf)|((with_reducible first|apply A8|apply A7);(·exact hC))|(with_reducible first|apply A5|apply A4)<;>intro _
   all_goals rfl
  subst g5
  rw[if_neg (by decide)] at hq
  by_cases g6:f=k
  ·rw[if_pos g6] at hq
   subst hq
   subst g6
   have r1:f=f:=rfl
   refine A2D.go A6 rfl ?_
   repeat' first|refine st ?_|((with_reducible apply C7);conv=>whnf)|((with_reducible first|apply A8|apply A7);(·first|exact hC|exact hF))|(with_reducible first|apply A5|apply A4)<;>intro _
   all_goals rfl
  ·rw[if_neg g6] at hq
   have g7:¬k=f:=λe=>g6 e.symm
   unfold B0 at hq
   by_cases g8:f<k
   ·rw[if_pos g8] at hq
    subst hq
    refine A2D.go A6 rfl ?_
    repeat' first|refine st ?_|((with_reducible apply C7);conv=>whnf)|((with_reducible first|apply A8|apply A7);(·first|exact hC|exact hF))|(with_reducible first|apply A5|apply A4)<;>intro _
    all_goals rfl
   ·rw[if_neg g8] at hq
    subst hq
    refine A2D.go A6 rfl ?_
    repeat' first|refine st ?_|((with_reducible apply C7);conv=>whnf)|((with_reducible first|apply A8|apply A7);(·first|exact hC|exact hF))|(with_reducible first|apply A5|apply A4)<;>intro _
    all_goals rfl
def F0(l:List Fo):List (List D):=H6 (l.map T9)
theorem B2o(l:List Fo):(F0 l).length=l.length:=by unfold F0;rw[A1M,D5]
theorem B2p(l:List Fo):∀e∈F0 l,e.length=2:=A36 _
theorem B2q{l:List Fo}{i:Nat}{f:Fo}(h:l[i]?=some f):F0 (l.take i)++[[.sl (A0 f.cs),.str f.tb]]=F0 (l.take (i+1)):=by
 unfold F0
 rw[Q9,h]
 simp[H6,T9,Fo.ds,Fo.d,ng]
theorem B1X(x:TD)(h:x.ok):B5 Tryz.prog A55 [x.av] [] (λr os=>r=.agg [.d (.str x.t.nm),.arr 3 (B2 x.t.cs).length,.arr 4 (A0 x.t.ks).length,.arr 5 (F0 x.t.fs).length,.arr 6 (xL (x.t.xs.map F3)).length]/\
  ∃a b c,os=[a,b,c,.arr (B2 x.t.cs) 3 0 (B2 x.t.cs).isEmpty,.arr (A0 x.t.ks) 1 0 (A0 x.t.ks).isEmpty,.arr (F0 x.t.fs) 2 0 (F0 x.t.fs).isEmpty,.arr (xL (x.t.xs.map F3)) 7 0 (xL (x.t.xs.map F3)).isEmpty]):=by
 obtain⟨⟨nm,cs,ks,fs,xs⟩,dc,dk,df,dx⟩:=x
 obtain⟨⟨h1,h2,h3,h4,h5,h6,h7,h8,h9,h10,h11,h12⟩,hr⟩:=h
 dsimp only at h1 h2 h3 h4 h5 h6 h7 h8 h9 h10 h11 h12 hr ⊢
 have c1:=F4 cs
 have c2:=I4 cs
 have k1:=B7 ks
 have k2:=D3 ks
 have f1:=A1M fs
 have f2:=A36 fs
 have f3:=λi f=>@A40 fs i f
 have x1:=I6 xs
 have x2:=O7 xs
 have x3:=m4 (args:=xs)
 obtain⟨Cs,hCs⟩:∃z,z=B2 cs:=⟨_,rfl⟩
 obtain⟨Ks,hKs⟩:∃z,z=A0 ks:=⟨_,rfl⟩
 obtain⟨Fs,hFs⟩:∃z,z=H6 fs:=⟨_,rfl⟩
 obtain⟨Xs,hXs⟩:∃z,z=xL xs:=⟨_,rfl⟩
 obtain⟨FR,hFR⟩:∃z,z=F0 fs:=⟨_,rfl⟩
 obtain⟨XR,hXR⟩:∃z,z=xL (xs.map F3):=⟨_,rfl⟩
 rw[<- hCs] at c1 c2 h9 ⊢
 rw[<- hKs] at k1 k2 h10 ⊢
 rw[<- hFs] at f1 f2 f3 h11
 rw[<- hXs] at x1 x2 x3 h12
 rw[<- hFR,<- hXR]
 have b1:(([]:List (List D)).length+Cs.length)*32<=140737488355328/\([]:List (List D)).length+Cs.length<=9223372036854775807:=by rw[P9];omega
 have b2:(([]:List (List D)).length+Ks.length)*8<=140737488355328/\([]:List (List D)).length+Ks.length<=9223372036854775807:=by rw[P9];omega
 refine C2Y.goO A6 rfl ?_
 repeat' first|refine st ?_|(with_reducible first|apply A5|apply A4)<;>intro _
 refine A2B 2 3 2 rfl rfl rfl ?_
 refine J1 A6 C5F C4L (λ(i:Nat) (w:List (List D)×Bool)=>[.d (eI i)]) (λi w=>[.cells [.d (.str nm),.d dc,.d dk,.d df,.d dx],.cells [.d (.str []),.d .nil,.d .nil,.d .nil,.d .nil],.cells [.d (.str nm),.arr 3 Cs.length,.arr 4 Ks.length,.arr 5 w.1.length,.d .nil],.arr Cs 3 0 Cs.isEmpty,.arr Ks 1 0 Ks.isEmpty,.arr w.1 2 0 w.2]) (λi w=>i<=fs.length/\w.1=F0 (fs.take i)/\w.2=w.1.isEmpty) (λi w=>fs.length-i) 0 ([],true) rfl rfl rfl rfl (λ_ _ _=>⟨rfl,rfl⟩) rfl ⟨by omega,rfl,rfl⟩ ?_
 repeat' first|refine st ?_|(with_reducible first|apply A5|apply A4)<;>intro _
 intro i w ⟨g1,g2,g3⟩
 obtain⟨A,b⟩:=w
 dsimp only at g2 g3 ⊢
 have hAl:A.length=i:=by rw[g2,B2o,L6];omega
 have hAm:∀e∈A,e.length=2:=by rw[g2];exact B2p _
 cases hy:fs[i]? with
 |some f=>
  have hlt:=(B3.1 hy).1
  have hg:=f3 i f hy
  have hs:=B2q hy
  rw[<- g2] at hs
  have hfb:=(h6 f (C4 hy)).1
  have e1:=f.sld
  have e2:=B7 f.cs
  have e3:=D3 f.cs
  unfold Fo.ds at hg
  obtain⟨fd,hfd⟩:∃z,z=f.d:=⟨_,rfl⟩
  obtain⟨E,hE⟩:∃z,z=A0 f.cs:=⟨_,rfl⟩
  obtain⟨tb,htb⟩:∃z,z=f.tb:=⟨_,rfl⟩
  rw[<- hfd] at hg e1
  rw[<- htb] at hg hs
  rw[<- hE] at e1 e2 e3 hs
  have b3:(([]:List (List D)).length+E.length)*8<=140737488355328/\([]:List (List D)).length+E.length<=9223372036854775807:=by rw[P9];omega
  clear g2
  repeat' first|refine st ?_|(with_reducible first|apply A5|apply A4)<;>intro _
  exact⟨i+1,(A++[[.sl E,.str tb]],false),rfl,rfl,by first|rfl|(simp[CnD];done),by omega,by omega,hs,by simp⟩
 |none=>
  have hge:=D8.1 hy
  rw[M7 hge,<- hFR] at g2
  subst g2
  subst g3
  repeat' first|refine st ?_|(with_reducible first|apply A5|apply A4)<;>intro _
  refine A2B 2 4 7 rfl rfl rfl ?_
  refine J1 A6 C5G C4M (λ(i:Nat) (w:List (List D)×Bool)=>[.d (eI i)]) (λi w=>[.cells [.d (.str nm),.d dc,.d dk,.d df,.d dx],.cells [.d (.str []),.d .nil,.d .nil,.d .nil,.d .nil],.cells [.d (.str nm),.arr 3 Cs.length,.arr 4 Ks.length,.arr 5 A.length,.arr 6 w.1.length],.arr Cs 3 0 Cs.isEmpty,.arr Ks 1 0 Ks.isEmpty,.arr A 2 0 A.isEmpty,.arr w.1 7 0 w.2]) (λi w=>i<=xs.length/\w.1=Mt F3 xs i/\w.2=w.1.isEmpty) (λi w=>xs.length-i) 0 ([],true) rfl rfl rfl rfl (λ_ _ _=>⟨rfl,rfl⟩) rfl ⟨by omega,rfl,rfl⟩ ?_
  repeat' first|refine st ?_|(with_reducible first|apply A5|apply A4)<;>intro _
  intro q w ⟨g4,g5,g6⟩
  obtain⟨B,b⟩:=w
  dsimp only at g5 g6 ⊢
  have hBl:B.length=q:=by rw[g5];exact x5 _ xs q (by omega)
  have hBm:∀e∈B,e.length=7:=by rw[g5];exact x6 _ _ _
  cases hx:xs[q]? with
  |some y=>
   have hlt:=(B3.1 hx).1
   have hs:=x7 (φ:=F3) hx
   have hS:=C1A 0 y (h8 y (C4 hx))
   rw[B9I y (hr y (C4 hx))] at hS
   rw[<- g5] at hs
   obtain⟨z,hz⟩:∃z,z=F3 y:=⟨_,rfl⟩
   rw[<- hz] at hs hS
   obtain⟨o1,n1,v1,m1,l1,a1⟩:=y
   obtain⟨o2,n2,v2,m2,l2,a2⟩:=z
   have hg:=x3 _ _ _ _ _ _ _ hx
   rw[Ex.ds_mk] at hs
   rw[Ex.av_mk,Ex.av_mk] at hS
   clear g5
   repeat' first|refine st ?_|((with_reducible first|apply A8|apply A7);(·exact hS))|(with_reducible first|apply A5|apply A4)<;>intro _
   exact⟨q+1,(B++[W0 o2 n2 v2 m2 (ng l2 (xL a2))],false),rfl,rfl,rfl,by omega,by omega,hs,by simp⟩
  |none=>
   have hge:=D8.1 hx
   rw[x4 hge,<- hXR] at g5
   subst g5
   subst g6
   repeat' first|refine st ?_|(with_reducible first|apply A5|apply A4)<;>intro _
   all_goals exact⟨rfl,_,_,_,rfl⟩
def eD(l:List (List D)):D:=C2 l.isEmpty l
theorem A1a(l:List (List D)):B8 (eD l) l:=p9 λe=>A2L.1 e
def TD.cpR(x:TD):TD:=⟨⟨x.t.nm,x.t.cs,x.t.ks,x.t.fs.map T9,x.t.xs.map F3⟩,eD (B2 x.t.cs),eD (A0 x.t.ks),eD (F0 x.t.fs),eD (xL (x.t.xs.map F3))⟩
theorem TD.cpR_ok{x:TD}(h:x.ok):x.cpR.ok:=by
 obtain⟨h,hr⟩:=h
 refine⟨⟨h.hn,h.hl,h.hls,h.hk,by show(x.t.fs.map T9).length<=_;rw[D5];exact h.hfl,λf hf=>?_,by show(x.t.xs.map F3).length<=_;rw[D5];exact h.hxs,λe he=>?_,A1a _,A1a _,A1a _,A1a _⟩,λe he=>?_⟩
 ·obtain⟨g,hg,rfl⟩:=F1.1 hf
  exact h.hfc g hg
 ·obtain⟨a,ha,rfl⟩:=F1.1 he
  exact O9 (A5t a) (h.hxb a ha)
 ·obtain⟨a,ha,rfl⟩:=F1.1 he
  exact B04 a (hr a ha)
theorem D1A(x:TD):nf x.cpR.t=nf x.t:=D1B x.t
theorem B06{os:List AO}{nm:List UInt8}{a b f x:Nat}{Cs K F X:List (List D)}{cn kn fn xn:Bool}{cz kz fz xz cf kf ff xf:Nat}
  (h1:os[a]?=some (.arr Cs cz cf cn)) (h2:os[b]?=some (.arr K kz kf kn)) (h3:os[f]?=some (.arr F fz ff fn)) (h4:os[x]?=some (.arr X xz xf xn)) :
  DG os (.agg [.d (.str nm),.arr a Cs.length,.arr b K.length,.arr f F.length,.arr x X.length]) (eT nm (C2 cn Cs) (C2 kn K) (C2 fn F) (C2 xn X)):=by
 refine .inr ⟨_,[.str nm,C2 cn Cs,C2 kn K,C2 fn F,C2 xn X],rfl,rfl,rfl,λj c y hc hy=>?_⟩
 match j,hc,hy with
 |0,hc,hy=>cases hc;cases hy;exact .inl (.inl rfl)
 |1,hc,hy=>cases hc;cases hy;exact .inl (.inr ⟨a,Cs,cz,cf,cn,rfl,h1,rfl⟩)
 |2,hc,hy=>cases hc;cases hy;exact .inl (.inr ⟨b,K,kz,kf,kn,rfl,h2,rfl⟩)
 |3,hc,hy=>cases hc;cases hy;exact .inl (.inr ⟨f,F,fz,ff,fn,rfl,h3,rfl⟩)
 |4,hc,hy=>cases hc;cases hy;exact .inl (.inr ⟨x,X,xz,xf,xn,rfl,h4,rfl⟩)
 |j+5,hc,hy=>simp at hc
theorem B1W(x:TD)(h:x.ok):Pure Tryz.prog A55 [x.av] x.cpR.av:=by
 refine B5.deepP (B1X x h) ?_
 rintro r os ⟨rfl,a,b,c,rfl⟩
 exact .inl (B06 rfl rfl rfl rfl)
def FD(i:Nat)(l:List Fo):List (List D):=F0 (l.map (H9 i))
theorem C4a(i:Nat){l:List Fo}{j:Nat}{f:Fo}(h:l[j]?=some f):FD i (l.take j)++[[.sl (A0 (f.cs.map λc=>B0 c i)),.str f.tb]]=FD i (l.take (j+1)):=by
 have h1:=B2q (l:=l.map (H9 i)) (i:=j) (f:=H9 i f) (by rw[G4,h];rfl)
 rw[<- List.map_take,<- List.map_take] at h1
 exact h1
theorem C49(i:Nat)(l:List Fo):(FD i l).length=l.length:=by unfold FD;rw[B2o,D5]
theorem D0w{α:Type}(l:List α)(i:Nat):l.take i++l.drop (i+1)=l.eraseIdx i:=(List.eraseIdx_eq_take_drop_succ ..).symm
def TD.wo(x:TD)(i:Nat):TD:=⟨⟨x.t.nm,x.t.cs.eraseIdx i,x.t.ks.map (λc=>B0 c i),(x.t.fs.map (H9 i)).map T9,x.t.xs.map (M8 i)⟩,eD (B2 (x.t.cs.eraseIdx i)),.sl (A0 (x.t.ks.map λc=>B0 c i)),eD (FD i x.t.fs),eD (xL (x.t.xs.map (M8 i)))⟩
theorem C1S(x:TD)(h:x.ok)(i:Nat)(hi:i<x.t.cs.length)(hkb:∀k∈x.t.ks,0<=k/\k<=1048576)(hfb:∀g∈x.t.fs,∀k∈g.cs,0<=k/\k<=1048576) :
  B5 Tryz.prog A72 [x.av,.d (eI i)] [] (λr os=>∃T:List (List D),T=B2 (x.t.cs.eraseIdx i)/\r=.agg [.d (.str x.t.nm),.arr 3 T.length,.d (.sl (A0 (x.t.ks.map λc=>B0 c i))),.arr 4 (FD i x.t.fs).length,.arr 5 (xL (x.t.xs.map (M8 i))).length]/\
  ∃a b c fl,fl=T.isEmpty/\os=[a,b,c,.arr T 3 0 fl,.arr (FD i x.t.fs) 2 0 (FD i x.t.fs).isEmpty,.arr (xL (x.t.xs.map (M8 i))) 7 0 (xL (x.t.xs.map (M8 i))).isEmpty]):=by
 obtain⟨⟨nm,cs,ks,fs,xs⟩,dc,dk,df,dx⟩:=x
 obtain⟨⟨h1,h2,h3,h4,h5,h6,h7,h8,h9,h10,h11,h12⟩,hr⟩:=h
 dsimp only at h1 h2 h3 h4 h5 h6 h7 h8 h9 h10 h11 h12 hr hi hkb hfb ⊢
 have hT:(B2 cs).take i++(B2 cs).drop (i+1)=B2 (cs.eraseIdx i):=by rw[A3Z,D0w]
 have hK:=B20 ks h4 hkb i dk h10
 have c1:=F4 cs
 have c2:=I4 cs
 have f1:=A1M fs
 have f2:=A36 fs
 have f3:=λi f=>@A40 fs i f
 have x1:=I6 xs
 have x2:=O7 xs
 have x3:=m4 (args:=xs)
 have hdc:dc=.sl (B2 cs):=by
  rcases h9 with ⟨_,h⟩|h
  ·rw[h] at c1;simp at c1;omega
  ·exact h
 obtain⟨T,hT0⟩:∃T,T=B2 (cs.eraseIdx i):=⟨_,rfl⟩
 rw[<- hT0] at hT
 obtain⟨Cs,hCs⟩:∃z,z=B2 cs:=⟨_,rfl⟩
 obtain⟨Fs,hFs⟩:∃z,z=H6 fs:=⟨_,rfl⟩
 obtain⟨Xs,hXs⟩:∃z,z=xL xs:=⟨_,rfl⟩
 obtain⟨FR,hFR⟩:∃z,z=FD i fs:=⟨_,rfl⟩
 obtain⟨XR,hXR⟩:∃z,z=xL (xs.map (M8 i)):=⟨_,rfl⟩
 obtain⟨KR,hKR⟩:∃z,z=A0 (ks.map λc=>B0 c i):=⟨_,rfl⟩
 rw[<- hCs] at c1 c2 hdc hT
 rw[<- hFs] at f1 f2 f3 h11
 rw[<- hXs] at x1 x2 x3 h12
 rw[<- hKR] at hK ⊢
 rw[<- hFR,<- hXR]
 subst hdc
 obtain⟨T1,hT1⟩:∃z,z=Cs.take i:=⟨_,rfl⟩
 obtain⟨T2,hT2⟩:∃z,z=Cs.drop (i+1):=⟨_,rfl⟩
 have t1:List.take ((i:Int).toNat-((0:Nat):Int).toNat) (List.drop ((0:Nat):Int).toNat Cs)=T1:=by rw[hT1];rfl
 have t2:List.take ((Cs.length:Int).toNat-((i:Int)+1).toNat) (List.drop ((i:Int)+1).toNat Cs)=T2:=by
  rw[hT2]
  exact M7 (by rw[Y4];omega)
 have cm1:∀e∈T1,e.length=3:=λe he=>c2 e (W3 (hT1▸he))
 have cm2:∀e∈T2,e.length=3:=λe he=>c2 e (A2O (hT2▸he))
 have l1:T1.length<=1048576:=by rw[hT1];exact O9 (A6V ..) (by omega)
 have l2:T2.length<=1048576:=by rw[hT2,Y4];omega
 rw[<- hT1,<- hT2] at hT
 have hfl:(bif T2.isEmpty then T1.isEmpty else false)=T.isEmpty:=by rw[<- hT];cases T1<;>cases T2<;>rfl
 have b1:(([]:List (List D)).length+T1.length)*32<=140737488355328/\([]:List (List D)).length+T1.length<=9223372036854775807:=by rw[P9];omega
 have b2:(T1.length+T2.length)*32<=140737488355328/\T1.length+T2.length<=9223372036854775807:=by omega
 refine C3e.goO A6 rfl ?_
 repeat' first|refine st ?_|((with_reducible first|apply A8|apply A7);(·exact hK))|(with_reducible first|apply A5|apply A4)<;>intro _
 rw[t1]
 repeat' first|refine st ?_|(with_reducible first|apply A5|apply A4)<;>intro _
 rw[t2]
 repeat' first|refine st ?_|(with_reducible first|apply A5|apply A4)<;>intro _
 rw[hT]
 refine A2B 2 3 2 rfl rfl rfl ?_
 refine J1 A6 C5V C51 (λ(j:Nat) (w:List (List D)×Bool)=>[.d (eI j)]) (λj w=>[.cells [.d (.str nm),.d (.sl Cs),.d dk,.d df,.d dx],.cells [.d (.str []),.d .nil,.d .nil,.d .nil,.d .nil],.cells [.d (.str nm),.arr 3 T.length,.d (.sl KR),.arr 4 w.1.length,.d .nil],.arr T 3 0 (bif T2.isEmpty then T1.isEmpty else false),.arr w.1 2 0 w.2]) (λj w=>j<=fs.length/\w.1=FD i (fs.take j)/\w.2=w.1.isEmpty) (λj w=>fs.length-j) 0 ([],true) rfl rfl rfl rfl (λ_ _ _=>⟨rfl,rfl⟩) rfl ⟨by omega,rfl,rfl⟩ ?_
 repeat' first|refine st ?_|(with_reducible first|apply A5|apply A4)<;>intro _
 intro j w ⟨g1,g2,g3⟩
 obtain⟨A,b⟩:=w
 dsimp only at g2 g3 ⊢
 have hAl:A.length=j:=by rw[g2,C49,L6];omega
 have hAm:∀e∈A,e.length=2:=by rw[g2];exact B2p _
 cases hy:fs[j]? with
 |some f=>
  have hlt:=(B3.1 hy).1
  have hg:=f3 j f hy
  have hs:=C4a i hy
  rw[<- g2] at hs
  have hfm:=C4 hy
  have hL:=B20 f.cs (h6 f hfm).1 (hfb f hfm) i f.d f.sld
  unfold Fo.ds at hg
  obtain⟨fd,hfd⟩:∃z,z=f.d:=⟨_,rfl⟩
  obtain⟨E,hE⟩:∃z,z=A0 (f.cs.map λc=>B0 c i):=⟨_,rfl⟩
  obtain⟨tb,htb⟩:∃z,z=f.tb:=⟨_,rfl⟩
  rw[<- hfd] at hg hL
  rw[<- htb] at hg hs
  rw[<- hE] at hL hs
  clear g2
  repeat' first|refine st ?_|((with_reducible first|apply A8|apply A7);(·exact hL))|(with_reducible first|apply A5|apply A4)<;>intro _
  exact⟨j+1,(A++[[.sl E,.str tb]],false),rfl,rfl,by first|rfl|(simp[CnD];done),by omega,by omega,hs,by simp⟩
 |none=>
  have hge:=D8.1 hy
  rw[M7 hge,<- hFR] at g2
  subst g2
  subst g3
  repeat' first|refine st ?_|(with_reducible first|apply A5|apply A4)<;>intro _
  refine A2B 2 4 7 rfl rfl rfl ?_
  refine J1 A6 C5W C52 (λ(j:Nat) (w:List (List D)×Bool)=>[.d (eI j)]) (λj w=>[.cells [.d (.str nm),.d (.sl Cs),.d dk,.d df,.d dx],.cells [.d (.str []),.d .nil,.d .nil,.d .nil,.d .nil],.cells [.d (.str nm),.arr 3 T.length,.d (.sl KR),.arr 4 A.length,.arr 5 w.1.length],.arr T 3 0 (bif T2.isEmpty then T1.isEmpty else false),.arr A 2 0 A.isEmpty,.arr w.1 7 0 w.2]) (λj w=>j<=xs.length/\w.1=Mt (M8 i) xs j/\w.2=w.1.isEmpty) (λj w=>xs.length-j) 0 ([],true) rfl rfl rfl rfl (λ_ _ _=>⟨rfl,rfl⟩) rfl ⟨by omega,rfl,rfl⟩ ?_
  repeat' first|refine st ?_|(with_reducible first|apply A5|apply A4)<;>intro _
  intro q w ⟨g4,g5,g6⟩
  obtain⟨B,b⟩:=w
  dsimp only at g5 g6 ⊢
  have hBl:B.length=q:=by rw[g5];exact x5 _ xs q (by omega)
  have hBm:∀e∈B,e.length=7:=by rw[g5];exact x6 _ _ _
  cases hx:xs[q]? with
  |some y=>
   have hlt:=(B3.1 hx).1
   have hs:=x7 (φ:=M8 i) hx
   have hS:=C1O i y (h8 y (C4 hx)) (hr y (C4 hx))
   rw[<- g5] at hs
   obtain⟨z,hz⟩:∃z,z=M8 i y:=⟨_,rfl⟩
   rw[<- hz] at hs hS
   obtain⟨o1,n1,v1,m1,l1,a1⟩:=y
   obtain⟨o2,n2,v2,m2,l2,a2⟩:=z
   have hg:=x3 _ _ _ _ _ _ _ hx
   rw[Ex.ds_mk] at hs
   rw[Ex.av_mk,Ex.av_mk] at hS
   clear g5
   repeat' first|refine st ?_|((with_reducible first|apply A8|apply A7);(·exact hS))|(with_reducible first|apply A5|apply A4)<;>intro _
   exact⟨q+1,(B++[W0 o2 n2 v2 m2 (ng l2 (xL a2))],false),rfl,rfl,rfl,by omega,by omega,hs,by simp⟩
  |none=>
   have hge:=D8.1 hx
   rw[x4 hge,<- hXR] at g5
   subst g5
   subst g6
   repeat' first|refine st ?_|(with_reducible first|apply A5|apply A4)<;>intro _
   all_goals exact⟨T,hT0,rfl,_,_,_,_,hfl,rfl⟩
theorem D05{os:List AO}{nm:List UInt8}{a f x:Nat}{Cs F X:List (List D)}{k:D}{cn fn xn:Bool}{cz fz xz cf ff xf:Nat}
  (h1:os[a]?=some (.arr Cs cz cf cn)) (h3:os[f]?=some (.arr F fz ff fn)) (h4:os[x]?=some (.arr X xz xf xn)) :
  DG os (.agg [.d (.str nm),.arr a Cs.length,.d k,.arr f F.length,.arr x X.length]) (eT nm (C2 cn Cs) k (C2 fn F) (C2 xn X)):=by
 refine .inr ⟨_,[.str nm,C2 cn Cs,k,C2 fn F,C2 xn X],rfl,rfl,rfl,λj c y hc hy=>?_⟩
 match j,hc,hy with
 |0,hc,hy=>cases hc;cases hy;exact .inl (.inl rfl)
 |1,hc,hy=>cases hc;cases hy;exact .inl (.inr ⟨a,Cs,cz,cf,cn,rfl,h1,rfl⟩)
 |2,hc,hy=>cases hc;cases hy;exact .inl (.inl rfl)
 |3,hc,hy=>cases hc;cases hy;exact .inl (.inr ⟨f,F,fz,ff,fn,rfl,h3,rfl⟩)
 |4,hc,hy=>cases hc;cases hy;exact .inl (.inr ⟨x,X,xz,xf,xn,rfl,h4,rfl⟩)
 |j+5,hc,hy=>simp at hc
theorem C1R(x:TD)(h:x.ok)(i:Nat)(hi:i<x.t.cs.length)(hkb:∀k∈x.t.ks,0<=k/\k<=1048576)(hfb:∀g∈x.t.fs,∀k∈g.cs,0<=k/\k<=1048576):Pure Tryz.prog A72 [x.av,.d (eI i)] (x.wo i).av:=by
 refine B5.deepP (C1S x h i hi hkb hfb) ?_
 rintro r os ⟨T,hT,rfl,a,b,c,fl,hfl,rfl⟩
 subst hT
 subst hfl
 exact .inl (D05 rfl rfl rfl)
theorem B9i(x:TD)(h:x.ok)(c:Ch)(hc:G7 c)(hq:D2 x.t c≠0):Pure Tryz.prog A57 [x.av,c.av] (.tup [r9.av,.d (eI (D2 x.t c))]):=by
 have hC:=A6C x.t x.dc x.dk x.df x.dx h.tok c hc
 obtain⟨q,hqq⟩:∃q,q=D2 x.t c:=⟨_,rfl⟩
 rw[<- hqq] at hC hq ⊢
 obtain⟨⟨nm,cs,ks,fs,xs⟩,dc,dk,df,dx⟩:=x
 obtain⟨k,cnm,to,⟨cn,ck,cl⟩,⟨vk,vn,vs⟩⟩:=c
 refine A4P.go A6 rfl ?_
 repeat' first|refine st ?_|((with_reducible first|apply A8|apply A7);(·exact hC))|(with_reducible first|apply A5|apply A4)<;>intro _
 all_goals rfl
def TD.evoR(x:TD)(c:Ch):TD:=
 if c.k=2 then x.wo (D6 c.nm x.t.cs).toNat
 else ⟨⟨x.t.nm,(D9 x.t c).cs,x.t.ks,x.t.fs.map T9,x.t.xs.map F3⟩,.sl (B2 (D9 x.t c).cs),eD (A0 x.t.ks),eD (F0 x.t.fs),eD (xL (x.t.xs.map F3))⟩
theorem B8K{x:TD}{c:Ch}(hk:1<=c.k/\c.k<=4):nf (x.evoR c).t=nf (D9 x.t c):=by
 have e1:(x.t.fs.map T9).map T9=x.t.fs.map T9:=by rw[j4];rfl
 have e3 (i:Nat):((x.t.fs.map (H9 i)).map T9).map T9=(x.t.fs.map (H9 i)).map T9:=by rw[j4,j4,j4];rfl
 unfold TD.evoR
 by_cases k2:c.k=2
 ·rw[if_pos k2]
  unfold D9
  rw[if_neg (by omega),if_pos k2]
  unfold TD.wo nf
  dsimp only
  rw[e3]
 ·rw[if_neg k2]
  unfold D9
  rw[if_neg k2]
  by_cases k1:c.k=1
  ·rw[if_pos k1];unfold nf;dsimp only;rw[e1]
  ·rw[if_neg k1]
   by_cases k3:c.k=3
   ·rw[if_pos k3];unfold nf;dsimp only;rw[e1]
   ·rw[if_neg k3];unfold nf;dsimp only;rw[e1]
theorem TD.evoR_ok{x:TD}(h:x.ok){c:Ch}(hc:G7 c)(hq:D2 x.t c=0):(x.evoR c).ok:=by
 obtain⟨q1,q2,_⟩:=k8 hq
 have h1:=TD.evo_ok h hc hq
 have h2:=TD.cpR_ok h
 unfold TD.evoR
 by_cases k2:c.k=2
 ·rw[if_pos k2]
  have e:D9 x.t c=⟨x.t.nm,x.t.cs.eraseIdx (D6 c.nm x.t.cs).toNat,x.t.ks.map (λy=>B0 y (D6 c.nm x.t.cs).toNat),x.t.fs.map (H9 (D6 c.nm x.t.cs).toNat),x.t.xs.map (M8 (D6 c.nm x.t.cs).toNat)⟩:=by unfold D9;rw[if_neg (by omega),if_pos k2]
  obtain⟨⟨a1,a2,a3,a4,a5,a6,a7,a8,a9,a10,a11,a12⟩,hr⟩:=h1
  have hr:(D9 x.t c).Rg:=hr
  have a2:(D9 x.t c).cs.length<=1048576:=a2
  have a3:∀c'∈(D9 x.t c).cs,c'.nm.length<=1048576:=a3
  have a4:(D9 x.t c).ks.length<=1048576:=a4
  have a5:(D9 x.t c).fs.length<=1048576:=a5
  have a6:∀f∈(D9 x.t c).fs,f.cs.length<=1048576/\f.tb.length<=1048576:=a6
  have a7:(D9 x.t c).xs.length<=1048576:=a7
  have a8:∀e∈(D9 x.t c).xs,e.bk<=1048576:=a8
  rw[e] at hr a2 a3 a4 a5 a6 a7 a8
  refine⟨⟨h.tok.hn,a2,a3,a4,?_,λf hf=>?_,a7,a8,A1a _,O6,A1a _,A1a _⟩,hr⟩
  ·show((x.t.fs.map _).map T9).length<=_
   rw[D5];exact a5
  ·obtain⟨g,hg,rfl⟩:=F1.1 hf
   exact a6 g hg
 ·rw[if_neg k2]
  exact⟨⟨h.tok.hn,h1.tok.hl,h1.tok.hls,h.tok.hk,h2.tok.hfl,h2.tok.hfc,h2.tok.hxs,h2.tok.hxb,O6,A1a _,A1a _,A1a _⟩,h2.rg⟩
theorem B1Z(x:TD)(h:x.ok)(c:Ch)(hc:G7 c)(hq:D2 x.t c=0):Pure Tryz.prog A57 [x.av,c.av] (.tup [(x.evoR c).av,.d (eI 0)]):=by
 obtain⟨q1,q2,q3,q4,q5⟩:=k8 hq
 have hv:=r6.1 q1
 have hC:=A6C x.t x.dc x.dk x.df x.dx h.tok c hc
 rw[hq] at hC
 have hF:=A1v x.t.nm x.t.cs h.tok.hl x.dc x.dk x.df x.dx h.tok.dc c.nm
 have hne:(B2 x.t.cs).isEmpty=false:=by
  have:=hv.l1
  cases hcs:x.t.cs with
  |nil=>rw[hcs] at this;simp at this
  |cons a l=>rfl
 have hl:=hv.l2
 have hcl:=F4 x.t.cs
 have hcm:=I4 x.t.cs
 by_cases k2:c.k=2
 ·obtain⟨i,co,hi,hco,hcn,hus,_,_⟩:=x9 (q5 (by omega))
  have hil:=(B3.1 hco).1
  have hR:=B1W x h
  have hW:=C1R x h i hil (λk hk=>by have:=hv.ks k hk;omega) (λg hg k hk=>by have:=(hv.fs g hg).2.2.1 k hk;omega)
  have e:x.evoR c=x.wo i:=by unfold TD.evoR;rw[if_pos k2,hi];rfl
  rw[e]
  rw[hi] at hF
  obtain⟨y,hy⟩:∃y,y=x.wo i:=⟨_,rfl⟩
  obtain⟨z,hz⟩:∃y,y=x.cpR:=⟨_,rfl⟩
  rw[<- hy] at hW ⊢
  rw[<- hz] at hR
  clear hy hz hcl hcm hne
  obtain⟨⟨nm,cs,ks,fs,xs⟩,dc,dk,df,dx⟩:=x
  obtain⟨k,cnm,to,⟨cn,ck,cl⟩,⟨vk,vn,vs⟩⟩:=c
  dsimp only at k2
  subst k2
  have hR:Bi.Pure Tryz.prog A55 [eT nm dc dk df dx] (eT z.t.nm z.dc z.dk z.df z.dx):=hR
  have hW:Bi.Pure Tryz.prog A72 [eT nm dc dk df dx,.d (eI i)] (eT y.t.nm y.dc y.dk y.df y.dx):=hW
  have hF:Bi.Pure Tryz.prog A56 [eT nm dc dk df dx,.d (.str cnm)] (.d (eI i)):=hF
  refine A4P.go A6 rfl ?_
  repeat' first|refine st ?_|((with_reducible first|apply A8|apply A7);(·first|exact hC|exact hR|exact hF|exact hW))|(with_reducible first|apply A5|apply A4)<;>intro _
  all_goals rfl
 ·have e:x.evoR c=⟨⟨x.t.nm,(D9 x.t c).cs,x.t.ks,x.t.fs.map T9,x.t.xs.map F3⟩,.sl (B2 (D9 x.t c).cs),eD (A0 x.t.ks),eD (F0 x.t.fs),eD (xL (x.t.xs.map F3))⟩:=by unfold TD.evoR;rw[if_neg k2]
  rw[e]
  have hR:=B1X x h
  rw[hne] at hR
  by_cases k1:c.k=1
  ·have e2:(D9 x.t c).cs=x.t.cs++[c.co]:=by unfold D9;rw[if_pos k1]
   have e3:B2 (x.t.cs++[c.co])=B2 x.t.cs++[c.co.ds]:=by simp[B2]
   unfold TD.av
   dsimp only
   rw[e2,e3]
   obtain⟨f,hf⟩:∃f,f=D6 c.nm x.t.cs:=⟨_,rfl⟩
   rw[<- hf] at hF
   generalize B2 x.t.cs=Cs at hR hcl hcm ⊢
   generalize A0 x.t.ks=Ks at hR ⊢
   generalize F0 x.t.fs=Fs at hR ⊢
   generalize xL (x.t.xs.map F3)=Xs at hR ⊢
   obtain⟨⟨nm,cs,ks,fs,xs⟩,dc,dk,df,dx⟩:=x
   obtain⟨k,cnm,to,⟨cn,ck,cl⟩,⟨vk,vn,vs⟩⟩:=c
   dsimp only at k1 hF hcl hl
   subst k1
   refine B5.deepP (Q:=λr os=>r=.tup [.agg [.d (.str nm),.arr 6 (Cs++[[.str cn,eI ck,.bool cl]]).length,.arr 7 Ks.length,.arr 8 Fs.length,.arr 9 Xs.length],.d (eI 0)]/\os[6]?=some (.arr (Cs++[[.str cn,eI ck,.bool cl]]) 3 0 false)/\os[7]?=some (.arr Ks 1 0 Ks.isEmpty)/\os[8]?=some (.arr Fs 2 0 Fs.isEmpty)/\os[9]?=some (.arr Xs 7 0 Xs.isEmpty)) ?_ ?_
   ·refine A4P.goO2 A6 rfl ?_
    repeat' first|refine st ?_|((with_reducible apply I0);(· exact hR);(rintro _ _ ⟨rfl,a,b,c,rfl⟩))|((with_reducible first|apply A8|apply A7);(·first|exact hC|exact hF))|(with_reducible first|apply A5|apply A4)<;>intro _
    exact⟨rfl,rfl,rfl,rfl,rfl⟩
   ·rintro r os ⟨rfl,h1,h2,h3,h4⟩
    refine .inr ⟨_,[_,.d (eI 0)],rfl,rfl,rfl,λj c x hc hx=>?_⟩
    match j,hc,hx with
    |0,hc,hx=>cases hc;cases hx;exact B06 h1 h2 h3 h4
    |1,hc,hx=>cases hc;cases hx;exact .inl ⟨eI 0,.inl (.inl rfl),rfl⟩
    |j+2,hc,hx=>simp at hc
  ·obtain⟨i,co,hi,hco,hcn,hus,_,_⟩:=x9 (q5 (by omega))
   have hil:=(B3.1 hco).1
   have hiN:(D6 c.nm x.t.cs).toNat=i:=by omega
   have hgd:x.t.cs.getD i ⟨[],0,false⟩=co:=by rw[E7,hco];rfl
   rw[hi] at hF
   have hg:(B2 x.t.cs)[((i:Nat):Int).toNat]?=some [.str co.nm,eI co.k,.bool co.nl]:=O2 hco
   have hg2:(B2 x.t.cs)[i]?=some [.str co.nm,eI co.k,.bool co.nl]:=O2 hco
   have hilt:i<(B2 x.t.cs).length:=by rw[hcl];exact hil
   have key:∃N:Co,(D9 x.t c).cs=x.t.cs.set i N/\((c.k=3/\N=⟨c.to,co.k,co.nl⟩)\/(c.k=4/\N=⟨co.nm,2,co.nl⟩)):=by
    by_cases k3:c.k=3
    ·exact⟨⟨c.to,co.k,co.nl⟩,by unfold D9;rw[if_neg k1,if_neg k2,if_pos k3,hiN,hgd],.inl ⟨k3,rfl⟩⟩
    ·exact⟨⟨co.nm,2,co.nl⟩,by unfold D9;rw[if_neg k1,if_neg k2,if_neg k3,hiN,hgd],.inr ⟨by omega,rfl⟩⟩
   obtain⟨N,e2,e4⟩:=key
   have e3:B2 (x.t.cs.set i N)=(B2 x.t.cs).set i N.ds:=by unfold B2;rw[W2]
   unfold TD.av
   dsimp only
   rw[e2,e3]
   generalize B2 x.t.cs=Cs at hR hcl hcm hg hg2 hilt ⊢
   generalize A0 x.t.ks=Ks at hR ⊢
   generalize F0 x.t.fs=Fs at hR ⊢
   generalize xL (x.t.xs.map F3)=Xs at hR ⊢
   obtain⟨⟨nm,cs,ks,fs,xs⟩,dc,dk,df,dx⟩:=x
   obtain⟨k,cnm,to,⟨cn,ck,cl⟩,⟨vk,vn,vs⟩⟩:=c
   dsimp only at hF hcl hl e4
   refine B5.deepP (Q:=λr os=>r=.tup [.agg [.d (.str nm),.arr 6 (Cs.set i N.ds).length,.arr 7 Ks.length,.arr 8 Fs.length,.arr 9 Xs.length],.d (eI 0)]/\os[6]?=some (.arr (Cs.set i N.ds) 3 0 false)/\os[7]?=some (.arr Ks 1 0 Ks.isEmpty)/\os[8]?=some (.arr Fs 2 0 Fs.isEmpty)/\os[9]?=some (.arr Xs 7 0 Xs.isEmpty)) ?_ ?_
   ·rw[U4]
    rcases e4 with ⟨k3,rfl⟩|⟨k4,rfl⟩
    ·subst k3
     refine A4P.goO2 A6 rfl ?_
     repeat' first|refine st ?_|((with_reducible apply I0);(· exact hR);(rintro _ _ ⟨rfl,a,b,c,rfl⟩))|((with_reducible first|apply A8|apply A7);(·first|exact hC|exact hF))|(with_reducible first|apply A5|apply A4)<;>intro _
     exact⟨rfl,rfl,rfl,rfl,rfl⟩
    ·subst k4
     refine A4P.goO2 A6 rfl ?_
     repeat' first|refine st ?_|((with_reducible apply I0);(· exact hR);(rintro _ _ ⟨rfl,a,b,c,rfl⟩))|((with_reducible first|apply A8|apply A7);(·first|exact hC|exact hF))|(with_reducible first|apply A5|apply A4)<;>intro _
     exact⟨rfl,rfl,rfl,rfl,rfl⟩
   ·rintro r os ⟨rfl,h1,h2,h3,h4⟩
    refine .inr ⟨_,[_,.d (eI 0)],rfl,rfl,rfl,λj c x hc hx=>?_⟩
    match j,hc,hx with
    |0,hc,hx=>cases hc;cases hx;exact B06 h1 h2 h3 h4
    |1,hc,hx=>cases hc;cases hx;exact .inl ⟨eI 0,.inl (.inl rfl),rfl⟩
    |j+2,hc,hx=>simp at hc
def TD.runR(x:TD)(i:Nat):List Ch->TD×Nat×Int
 |[]=>(x,i,0)
 |c::r=>if D2 x.t c=0 then TD.runR (x.evoR c) (i+1) r else (r9,i,D2 x.t c)
def TD.runsR(x:TD)(l:List Ch):TD×Nat×Int:=if K8 x.t=0 then TD.runR x.cpR 0 l else (r9,0,K8 x.t)
theorem D2S{x:TD}{l:List Ch}{i:Nat}{c:Ch}(h:l[i]?=some c):TD.runR x i (l.drop i)=if D2 x.t c=0 then TD.runR (x.evoR c) (i+1) (l.drop (i+1)) else (r9,i,D2 x.t c):=by
 obtain⟨hlt,he⟩:=B3.1 h
 rw[S5 hlt,he];rfl
theorem B9z:∀(l:List Ch)(x y:TD)(i:Nat),nf x.t=nf y.t->(TD.run x i l).2=(TD.runR y i l).2/\nf (TD.run x i l).1.t=nf (TD.runR y i l).1.t
 |[],x,y,i,h=>⟨rfl,h⟩
 |c::r,x,y,i,h=>by
  have h1:D2 x.t c=D2 y.t c:=by rw[<- A44,h,A44]
  by_cases hq:D2 x.t c=0
  ·have e1:TD.run x i (c::r)=TD.run (x.evo c) (i+1) r:=by rw[TD.run,if_pos hq]
   have e2:TD.runR y i (c::r)=TD.runR (y.evoR c) (i+1) r:=by rw[TD.runR,if_pos (by rw[<- h1];exact hq)]
   rw[e1,e2]
   refine B9z r (x.evo c) (y.evoR c) (i+1) ?_
   rw[B8K (k8 hq).2.1,<- A4j y.t,<- h,A4j]
   rfl
  ·have e1:TD.run x i (c::r)=(r9,i,D2 x.t c):=by rw[TD.run,if_neg hq]
   have e2:TD.runR y i (c::r)=(r9,i,D2 y.t c):=by rw[TD.runR,if_neg (by rw[<- h1];exact hq)]
   rw[e1,e2,h1]
   exact⟨rfl,rfl⟩
theorem B9F(x:TD)(l:List Ch):(x.runs l).2=(x.runsR l).2/\nf (x.runs l).1.t=nf (x.runsR l).1.t:=by
 unfold TD.runs TD.runsR
 by_cases hq:K8 x.t=0
 ·rw[if_pos hq,if_pos hq]
  exact B9z l x.cp x.cpR 0 (by rw[B0N,D1A])
 ·rw[if_neg hq,if_neg hq]
  exact⟨rfl,rfl⟩
theorem B9A:∀(l:List Ch)(x:TD)(i:Nat),x.ok->(∀c∈l,G7 c)->(TD.runR x i l).1.ok
 |[],x,i,h,_=>h
 |c::r,x,i,h,hc=>by
  unfold TD.runR
  split
  ·rename_i hq
   exact B9A r _ _ (TD.evoR_ok h (hc c (by simp)) hq) λd hd=>hc d (by simp[hd])
  ·exact B1D
theorem B1b{x:TD}{l:List Ch}(h:x.ok)(hc:∀c∈l,G7 c):(x.runsR l).1.ok:=by
 unfold TD.runsR
 split
 ·exact B9A l _ _ (TD.cpR_ok h) hc
 ·exact B1D
theorem C1M(x:TD)(h:x.ok)(l:List Ch)(hl:l.length<=1048576)(hls:∀c∈l,G7 c)(d:D)(hd:B8 d (M9 l)) :
  Pure Tryz.prog A71 [x.av,.d d] (.tup [(x.runsR l).1.av,.d (eI ((x.runsR l).2.1:Nat)),.d (eI (x.runsR l).2.2)]):=by
 have hT:=B1V x.t x.dc x.dk x.df x.dx h.tok
 obtain⟨R,hR⟩:∃R,R=x.runsR l:=⟨_,rfl⟩
 rw[<- hR]
 unfold TD.runsR at hR
 have h1:=A1L l
 have hm:=A3Y l
 have hg0:=λi c=>@A5v l i c
 obtain⟨es,hes⟩:∃es,es=M9 l:=⟨_,rfl⟩
 rw[<- hes] at h1 hm hd hg0
 by_cases hq:K8 x.t=0
 rotate_left
 ·rw[if_neg hq] at hR
  subst hR
  obtain⟨q,hqq⟩:∃q,q=K8 x.t:=⟨_,rfl⟩
  rw[<- hqq] at hT hq ⊢
  refine B2a.go A6 rfl ?_
  repeat' first|refine st ?_|((with_reducible apply C7);conv=>whnf)|((with_reducible first|apply A8|apply A7);(·exact hT))|(with_reducible first|apply A5|apply A4)<;>intro _
  all_goals rfl
 ·rw[if_pos hq] at hR
  rw[hq] at hT
  have hC:=B1W x h
  have hok:=TD.cpR_ok h
  obtain⟨y,hy⟩:∃y,y=x.cpR:=⟨_,rfl⟩
  rw[<- hy] at hC hR hok
  clear hy
  obtain⟨⟨nm,cs,ks,fs,xs⟩,dc,dk,df,dx⟩:=x
  have hC:Bi.Pure Tryz.prog A55 [eT nm dc dk df dx] (eT y.t.nm y.dc y.dk y.df y.dx):=hC
  have hT:Bi.Pure Tryz.prog A70 [eT nm dc dk df dx] (.d (eI 0)):=hT
  refine B2a.go A6 rfl ?_
  repeat' first|refine st ?_|((with_reducible apply C7);conv=>whnf)|((with_reducible first|apply A8|apply A7);(·first|exact hT|exact hC))|(with_reducible first|apply A5|apply A4)<;>intro _
  refine J1 A6 C5Q C4W (λ(i:Nat) (w:TD)=>[.d (eI i)]) (λi w=>[.cells [.d (.str nm),.d dc,.d dk,.d df,.d dx],.cells [.d (.str []),.d .nil,.d .nil,.d .nil,.d .nil],.cells [.d (.str w.t.nm),.d w.dc,.d w.dk,.d w.df,.d w.dx]]) (λi w=>i<=l.length/\w.ok/\R=TD.runR w i (l.drop i)) (λi w=>l.length-i) 0 y rfl rfl rfl rfl (λ_ _ _=>⟨rfl,rfl⟩) rfl ⟨by omega,hok,hR⟩ ?_
  repeat' first|refine st ?_|((with_reducible apply C7);conv=>whnf)|(with_reducible first|apply A5|apply A4)<;>intro _
  intro i w ⟨h4,h5,h6⟩
  cases hx:l[i]? with
  |some c=>
   have hlt:=(B3.1 hx).1
   have hcok:=hls c (C4 hx)
   have hg:=hg0 i c hx
   rw[D2S hx] at h6
   by_cases he:D2 w.t c=0
   ·rw[if_pos he] at h6
    have hA:=B1Z w h5 c hcok he
    have hok2:=TD.evoR_ok h5 hcok he
    obtain⟨z,hz⟩:∃z,z=w.evoR c:=⟨_,rfl⟩
    rw[<- hz] at hA h6 hok2
    obtain⟨ck,cnm,to,⟨cn,cck,cl⟩,⟨vk,vn,vs⟩⟩:=c
    have hA:Bi.Pure Tryz.prog A57 [eT w.t.nm w.dc w.dk w.df w.dx,chD ck cnm to cn cck cl vk vn vs] (.tup [eT z.t.nm z.dc z.dk z.df z.dx,.d (eI 0)]):=hA
    clear hR
    repeat' first|refine st ?_|((with_reducible apply C7);conv=>whnf)|((with_reducible first|apply A8|apply A7);(·exact hA))|(with_reducible first|apply A5|apply A4)<;>intro _
    exact⟨i+1,z,rfl,rfl,rfl,by omega,by omega,hok2,h6⟩
   ·rw[if_neg he] at h6
    have hA:=B9i w h5 c hcok he
    subst h6
    obtain⟨q,hqq⟩:∃q,q=D2 w.t c:=⟨_,rfl⟩
    rw[<- hqq] at hA he ⊢
    obtain⟨ck,cnm,to,⟨cn,cck,cl⟩,⟨vk,vn,vs⟩⟩:=c
    have hA:Bi.Pure Tryz.prog A57 [eT w.t.nm w.dc w.dk w.df w.dx,chD ck cnm to cn cck cl vk vn vs] (.tup [eT [] .nil .nil .nil .nil,.d (eI q)]):=hA
    clear hR
    repeat' first|refine st ?_|((with_reducible apply C7);conv=>whnf)|((with_reducible first|apply A8|apply A7);(·exact hA))|(with_reducible first|apply A5|apply A4)<;>intro _
    all_goals rfl
  |none=>
   have hge:=D8.1 hx
   rw[A1x hge] at h6
   have hil:i=l.length:=by omega
   subst h6
   clear hR
   repeat' first|refine st ?_|((with_reducible apply C7);conv=>whnf)|(with_reducible first|apply A5|apply A4)<;>intro _
   all_goals (first|rfl|(simp only[TD.runR,hil,h1];done)|(rw[h1,<- hil];rfl))
theorem B1h:∀{l:List Ch}{x:TD},K8 x.t=0->M3 x l=true->∀i,i<=l.length->K8 (I3 x (l.take i)).t=0
 |[],x,h,_,i,hi=>by
  have:i=0:=by simpa using hi
  subst this;exact h
 |c::r,x,h,hb,0,hi=>h
 |c::r,x,h,hb,i+1,hi=>by
  rw[M3,L2] at hb
  have he:D2 x.t c=0:=of_decide_eq_true hb.1
  have h2:K8 (x.to c).t=0:=by unfold TD.to;rw[if_pos he];exact r6.2 (A45 he)
  exact B1h (l:=r) (x:=x.to c) h2 hb.2 i (by simpa using hi)
theorem A1k:∀{l:List Ch}{x:TD}{i:Nat}{c:Ch},M3 x l=true->l[i]?=some c->D2 (I3 x (l.take i)).t c=0
 |[],x,i,c,_,h=>by simp at h
 |a::r,x,0,c,hb,h=>by
  rw[M3,L2] at hb
  simp at h;subst h
  exact of_decide_eq_true hb.1
 |a::r,x,i+1,c,hb,h=>by
  rw[M3,L2] at hb
  rw[j0] at h
  exact A1k (l:=r) (x:=x.to a) (i:=i) hb.2 h
theorem B1O(x:TD)(h:x.ok)(l:List Ch)(hl:l.length<=1048576)(hls:∀c∈l,G7 c)(d:D)(hd:B8 d (M9 l)) :
  Pure Tryz.prog B5R [x.av,.d d] (.d (A6l x l)):=by
 have hS:=A8A x h l hl hls d hd
 obtain⟨R,hR⟩:∃R,R=A6l x l:=⟨_,rfl⟩
 rw[<- hR]
 unfold A6l at hR
 cases hb:O0 x l with
 |false=>
  rw[hb] at hS hR
  rw[if_neg (by decide)] at hS hR
  subst hR
  clear hb hd
  obtain⟨⟨nm,cs,ks,fs,xs⟩,dc,dk,df,dx⟩:=x
  refine B2g.go A6 rfl ?_
  repeat' first|refine st ?_|((with_reducible first|apply A8|apply A7);(·exact hS))|(with_reducible first|apply A5|apply A4)<;>intro _
  all_goals rfl
 |true=>
  rw[hb] at hS hR
  rw[if_pos rfl] at hS hR
  unfold O0 at hb
  rw[L2] at hb
  have hq:K8 x.t=0:=of_decide_eq_true hb.1
  have hC:=B1G x h (r6.1 hq).fl
  obtain⟨S,hSS⟩:∃S,S=J3 x l:=⟨_,rfl⟩
  have hSl:S.length=l.length:=by rw[hSS];exact A22 l x
  have hSc:∀(i:Nat) s,S[i]?=some s->s.y.ok/\s.y.t.fs.length<=4:=λi s hs=>by
   have hi:=(B3.1 hs).1
   have hc:l[i]?=some (l[i]'(by omega)):=C8 (by omega)
   have h2:=v7 (x:=x) hc
   rw[<- hSS,hs] at h2
   have h3:=j7 h2
   have e:s.y=I3 x (l.take (i+1)):=by rw[h3,A8e hc,A5p]
   rw[e]
   exact⟨A33 _ h λc hc=>hls c (W3 hc),(r6.1 (B1h hq hb.2 (i+1) (by omega))).fl⟩
  unfold v8 at hR
  rw[<- hSS] at hS hR
  have hg0:=λi s=>@B7j S i s
  have h1:=B08 S
  have hm:=B09 S
  have hsd:B8 (C2 (P6 S).isEmpty (P6 S)) (P6 S):=p9 λe=>A2L.1 e
  obtain⟨sd,hsd0⟩:∃z,z=C2 (P6 S).isEmpty (P6 S):=⟨_,rfl⟩
  rw[<- hsd0] at hS hsd
  obtain⟨Es,hEs⟩:∃z,z=P6 S:=⟨_,rfl⟩
  rw[<- hEs] at hg0 h1 hm hsd
  obtain⟨y,hy⟩:∃z,z=x.cp:=⟨_,rfl⟩
  rw[<- hy] at hC hR
  clear hd hb hq h hSS hsd0 hEs hy
  obtain⟨⟨nm,cs,ks,fs,xs⟩,dc,dk,df,dx⟩:=x
  have hC:Bi.Pure Tryz.prog A1C [eT nm dc dk df dx] (eT y.t.nm y.dc y.dk y.df y.dx):=hC
  refine B2g.go A6 rfl ?_
  repeat' first|refine st ?_|((with_reducible first|apply A8|apply A7);(·first|exact hS|exact hC))|(with_reducible first|apply A5|apply A4)<;>intro _
  refine J1 A6 C67 C5d (λ(i:Nat) (A:List (List D))=>[.arr 1 A.length,.d (eI i)]) (λi A=>[.cells [.d (.str nm),.d dc,.d dk,.d df,.d dx],.arr A 5 0 false]) (λi A=>i<=S.length/\A=V4 (y::(S.take i).map λs=>s.y.cp)) (λi A=>S.length-i) 0 [[.str y.t.nm,y.dc,y.dk,y.df,y.dx]] rfl rfl rfl rfl (λ_ _ _=>⟨rfl,rfl⟩) rfl ⟨by omega,rfl⟩ ?_
  repeat' first|refine st ?_|(with_reducible first|apply A5|apply A4)<;>intro _
  intro i A ⟨g1,g2⟩
  have hAl:A.length=i+1:=by rw[g2,A41,I7,D5,L6];omega
  have hAm:∀e∈A,e.length=5:=by rw[g2];exact A37 _
  cases hx:S[i]? with
  |some s=>
   have hlt:=(B3.1 hx).1
   have hg:=hg0 i s hx
   obtain⟨k1,k2⟩:=hSc i s hx
   have hC2:=B1G s.y k1 k2
   have hs:A++[[.str s.y.cp.t.nm,s.y.cp.dc,s.y.cp.dk,s.y.cp.df,s.y.cp.dx]]=V4 (y::(S.take (i+1)).map λs=>s.y.cp):=by rw[g2,Q9,hx];simp[V4]
   obtain⟨z,hz⟩:∃z,z=s.y.cp:=⟨_,rfl⟩
   rw[<- hz] at hC2 hs
   obtain⟨x1,y1,c1⟩:=s
   have hC2:Bi.Pure Tryz.prog A1C [eT y1.t.nm y1.dc y1.dk y1.df y1.dx] (eT z.t.nm z.dc z.dk z.df z.dx):=hC2
   clear g2 hR
   unfold St.ds at hg
   dsimp only at hg
   repeat' first|refine st ?_|((with_reducible first|apply A8|apply A7);(·exact hC2))|(with_reducible first|apply A5|apply A4)<;>intro _
   exact⟨i+1,A++[[.str z.t.nm,z.dc,z.dk,z.df,z.dx]],rfl,rfl,rfl,by omega,by omega,hs⟩
  |none=>
   have hge:=D8.1 hx
   rw[M7 hge] at g2
   rw[<- g2] at hR
   subst hR
   clear g2
   repeat' first|refine st ?_|(with_reducible first|apply A5|apply A4)<;>intro _
   all_goals rfl
def A0O(x:TD)(l:List Ch)(j:Nat):Bool:=(List.range j).all λi=>decide ((x.runsR (l.take i)).2.2=0)
theorem D2C(x:TD)(l:List Ch)(j:Nat):A0O x l (j+1)=(A0O x l j&&decide ((x.runsR (l.take j)).2.2=0)):=by
 unfold A0O
 rw[List.range_succ,List.all_append]
 simp
def R7(x:TD)(l:List Ch)(j:Nat):List TD:=(List.range j).map λi=>(x.runsR (l.take i)).1
def A4m(x:TD)(l:List Ch):D:=if A0O x l (l.length+1) then .sl (V4 (R7 x l (l.length+1))) else .nil
theorem B9f{x:TD}{l:List Ch}{i j:Nat}(h:(x.runsR (l.take i)).2.2≠0)(hij:i<j):A0O x l j=false:=by
 rw[Bool.eq_false_iff]
 intro hh
 have:=M5.1 hh i (A0W.2 hij)
 exact h (of_decide_eq_true this)
theorem A8C(x:TD)(h:x.ok)(l:List Ch)(hl:l.length<=1048576)(hls:∀c∈l,G7 c)(d:D)(hd:B8 d (M9 l)) :
  Pure Tryz.prog B5x [x.av,.d d] (.d (A4m x l)):=by
 have hRun:=λ(i:Nat) d' hd'=>C1M x h (l.take i) (by rw[L6];omega) (λc hc=>hls c (W3 hc)) d' hd'
 obtain⟨R,hR⟩:∃R,R=A4m x l:=⟨_,rfl⟩
 rw[<- hR]
 unfold A4m at hR
 have h1:=A1L l
 have hm:=A3Y l
 have htk:=λi=>D0e l i
 obtain⟨es,hes⟩:∃es,es=M9 l:=⟨_,rfl⟩
 rw[<- hes] at h1 hm hd
 have htk:∀i,M9 (l.take i)=es.take i:=λi=>by rw[hes];exact(htk i).symm
 obtain⟨rn,hrn⟩:∃z,z=λi=>x.runsR (l.take i):=⟨_,rfl⟩
 have hp:∀j,A0O x l (j+1)=(A0O x l j&&decide ((rn j).2.2=0)):=λj=>by rw[D2C,hrn]
 have hpf:∀i j,(rn i).2.2≠0->i<j->A0O x l j=false:=λi j h1 h2=>B9f (by rw[hrn] at h1;exact h1) h2
 have hrl:∀j,R7 x l (j+1)=R7 x l j++[(rn j).1]:=λj=>by unfold R7;rw[List.range_succ,A4V,hrn];rfl
 have hr0:R7 x l 0=[]:=rfl
 have hRun:∀(i:Nat) d',B8 d' (es.take i)->Bi.Pure Tryz.prog A71 [x.av,.d d'] (.tup [(rn i).1.av,.d (eI ((rn i).2.1:Nat)),.d (eI (rn i).2.2)]):=λi d' hd'=>by
  rw[hrn];exact hRun i d' (by rw[htk];exact hd')
 obtain⟨rl,hrl0⟩:∃z,z=R7 x l:=⟨_,rfl⟩
 rw[<- hrl0] at hR hrl hr0
 obtain⟨pb,hpb⟩:∃z,z=A0O x l:=⟨_,rfl⟩
 rw[<- hpb] at hR hp hpf
 have hp0:pb 0=true:=by rw[hpb];rfl
 clear hrn hrl0 hpb h
 have hbd:∀A:List (List D),A.length<=l.length+1->(A.length+1)*112<=140737488355328:=λA h=>by omega
 refine C3f.go A6 rfl ?_
 obtain⟨⟨nm,cs,ks,fs,xs⟩,dc,dk,df,dx⟩:=x
 repeat' first|refine st ?_|(with_reducible first|apply A5|apply A4)<;>intro _
 refine J1 A6 C5Z C55 (λ(i:Nat) (A:List (List D))=>[.arr 1 A.length,.d (eI i)]) (λi A=>[.cells [.d (.str nm),.d dc,.d dk,.d df,.d dx],.arr A 5 0 false]) (λi A=>i<=l.length+1/\A=V4 (rl i)/\pb i=true/\A.length=i) (λi A=>l.length+1-i) 0 [] rfl rfl rfl rfl (λ_ _ _=>⟨rfl,rfl⟩) rfl ⟨by omega,by rw[hr0];rfl,hp0,rfl⟩ ?_
 repeat' first|refine st ?_|(with_reducible first|apply A5|apply A4)<;>intro _
 intro i A ⟨g1,g2,g3,g4⟩
 have hAm:∀e∈A,e.length=5:=by rw[g2];exact A37 _
 by_cases hi:i<=l.length
 ·have key:∀d',B8 d' (es.take i)->Bi.Pure Tryz.prog A71 [eT nm dc dk df dx,.d d'] (.tup [eT (rn i).1.t.nm (rn i).1.dc (rn i).1.dk (rn i).1.df (rn i).1.dx,.d (eI ((rn i).2.1:Nat)),.d (eI (rn i).2.2)]):=hRun i
  have hs:A++[[.str (rn i).1.t.nm,(rn i).1.dc,(rn i).1.dk,(rn i).1.df,(rn i).1.dx]]=V4 (rl (i+1)):=by rw[g2,hrl];simp[V4]
  have K9:=hp i
  have hpf1:=hpf i
  rw[g3,w6] at K9
  obtain⟨⟨y,n,e⟩,hy⟩:∃z,z=rn i:=⟨_,rfl⟩
  rw[<- hy] at key hs K9 hpf1
  dsimp only at key hs K9 hpf1
  clear g2 hRun hy
  have hes2:(es.length:Int)=l.length:=by omega
  rcases hd with ⟨rfl,he⟩|rfl
  ·have hi0:i=0:=by rw[he] at h1;simp at h1;omega
   subst hi0
   have key:=key .nil (by rw[he];exact A20)
   by_cases g5:e=0
   ·subst g5
    repeat' first|refine st ?_|((with_reducible first|apply A8|apply A7);(·exact key))|(with_reducible first|apply A5|apply A4)<;>intro _
    exact⟨0+1,A++[[.str y.t.nm,y.dc,y.dk,y.df,y.dx]],rfl,rfl,rfl,by omega,by omega,hs,K9,by simp[g4]⟩
   ·rw[hpf1 _ g5 (by omega:0<l.length+1),if_neg (by decide)] at hR
    subst hR
    repeat' first|refine st ?_|((with_reducible first|apply A8|apply A7);(·exact key))|(with_reducible first|apply A5|apply A4)<;>intro _
    all_goals rfl
  ·have key:=key (.sl ((es.drop (0:Int).toNat).take ((i:Int).toNat-(0:Int).toNat))) O6
   by_cases g5:e=0
   ·subst g5
    repeat' first|refine st ?_|((with_reducible first|apply A8|apply A7);(·exact key))|(with_reducible first|apply A5|apply A4)<;>intro _
    exact⟨i+1,A++[[.str y.t.nm,y.dc,y.dk,y.df,y.dx]],rfl,rfl,rfl,by omega,by omega,hs,K9,by simp[g4]⟩
   ·rw[hpf1 _ g5 (by omega:i<l.length+1),if_neg (by decide)] at hR
    subst hR
    repeat' first|refine st ?_|((with_reducible first|apply A8|apply A7);(·exact key))|(with_reducible first|apply A5|apply A4)<;>intro _
    all_goals rfl
 ·have hie:i=l.length+1:=by omega
  subst hie
  rw[g3,if_pos rfl,<- g2] at hR
  subst hR
  clear g2 hRun hp hpf hrl
  repeat' first|refine st ?_|(with_reducible first|apply A5|apply A4)<;>intro _
  all_goals rfl
theorem B1R(f1 f2:FuncId)(S:List St)(hSl:S.length<=1048576)(d:D)(hd:B8 d (P6 S))(a b:Nat)(ha:a<=S.length)(hb:b<=S.length)(z:Nat->D)
  (hF:∀(i:Nat) s,a<=i->i<b->S[i]?=some s->B5 Tryz.prog f1 [s.av,.ptr 0 0] [.cells [.d (z i)]] (λr os=>r=.tup []/\os=[.cells [.d (z (i+1))]]))
  (hB:∀(i:Nat) s,b<=i->i<a->S[i]?=some s->B5 Tryz.prog f2 [s.av,.ptr 0 0] [.cells [.d (z (i+1))]] (λr os=>r=.tup []/\os=[.cells [.d (z i)]])) :
  B5 Tryz.prog A79 [.d d,.d (eI a),.d (eI b),.clo f1 [0],.clo f2 [0]] [.cells [.d (z a)]] (λr os=>r=.tup []/\os=[.cells [.d (z b)]]):=by
 have hg0:=λi s=>@B7j S i s
 have h1:=B08 S
 have hm:=B09 S
 obtain⟨Es,hEs⟩:∃q,q=P6 S:=⟨_,rfl⟩
 rw[<- hEs] at hd hg0 h1 hm
 refine C3J.goX A6 rfl ?_
 repeat' first|refine st ?_|(with_reducible first|apply A5|apply A4)<;>intro _
 refine F7 A6 C69 C5f (λ(p:Nat)=>[.d (eI p)]) (λp=>[.cells [.d (z p)]]) (λp=>a<=p/\(p<=b\/p=a)) (λp=>b-p) a rfl rfl rfl rfl (λ_ _=>⟨rfl,rfl⟩) rfl ⟨G9 _,.inr rfl⟩ ?_
 repeat' first|refine st ?_|(with_reducible first|apply A5|apply A4)<;>intro _
 intro p ⟨g1,g2⟩
 by_cases hp:p<b
 ·obtain⟨s,hs⟩:∃s,S[p]?=some s:=⟨_,C8 (by omega)⟩
  have hg:=hg0 p s hs
  have hC:=hF p s g1 hp hs
  obtain⟨x,y,c⟩:=s
  unfold St.ds at hg
  dsimp only at hg
  have hC:B5 Tryz.prog f1 [.agg [.d (.str x.t.nm),.d x.dc,.d x.dk,.d x.df,.d x.dx,.d (.str y.t.nm),.d y.dc,.d y.dk,.d y.df,.d y.dx,.d (eI c.k),.d (.str c.nm),.d (.str c.to),.d (.str c.co.nm),.d (eI c.co.k),.d (.bool c.co.nl),.d (eI c.df.k),.d (eI c.df.n),.d (.str c.df.s)],.ptr 0 0] [.cells [.d (z p)]] (λr os=>r=.tup []/\os=[.cells [.d (z (p+1))]]):=hC
  repeat' first|refine st ?_|((with_reducible first|apply I0|apply D7);(·exact hC);(try rintro _ _ ⟨rfl,rfl⟩))|((with_reducible apply I8);(·exact hC))|((with_reducible apply H8);refine st ?_;(with_reducible apply I5);(·exact rfl);refine st ?_;(with_reducible apply D7);(·exact hC);(try rintro _ _ ⟨rfl,rfl⟩))|(with_reducible first|apply A5|apply A4)<;>intro _
  exact⟨p+1,rfl,rfl,rfl,by omega,by omega,.inl (by omega)⟩
 ·repeat' first|refine st ?_|(with_reducible first|apply A5|apply A4)<;>intro _
  refine F7 A6 C6a C5g (λ(q:Nat)=>[.d (eI q)]) (λq=>[.cells [.d (z q)]]) (λq=>b<=q/\(q<=a\/q=b)) (λq=>q) p rfl rfl rfl rfl (λ_ _=>⟨rfl,rfl⟩) rfl ⟨by omega,by omega⟩ ?_
  repeat' first|refine st ?_|(with_reducible first|apply A5|apply A4)<;>intro _
  intro q ⟨g3,g4⟩
  by_cases hq:b<q
  ·obtain⟨k,rfl⟩:∃k,q=k+1:=⟨q-1,by omega⟩
   obtain⟨s,hs⟩:∃s,S[k]?=some s:=⟨_,C8 (by omega)⟩
   have hg:Es[((((k+1:Nat):Int))-1).toNat]?=some s.ds:=by rw[show((((k+1:Nat):Int))-1).toNat=k by omega];exact hg0 k s hs
   have hC:=hB k s (by omega) (by omega) hs
   obtain⟨x,y,c⟩:=s
   unfold St.ds at hg
   dsimp only at hg
   have hC:B5 Tryz.prog f2 [.agg [.d (.str x.t.nm),.d x.dc,.d x.dk,.d x.df,.d x.dx,.d (.str y.t.nm),.d y.dc,.d y.dk,.d y.df,.d y.dx,.d (eI c.k),.d (.str c.nm),.d (.str c.to),.d (.str c.co.nm),.d (eI c.co.k),.d (.bool c.co.nl),.d (eI c.df.k),.d (eI c.df.n),.d (.str c.df.s)],.ptr 0 0] [.cells [.d (z (k+1))]] (λr os=>r=.tup []/\os=[.cells [.d (z k)]]):=hC
   repeat' first|refine st ?_|((with_reducible first|apply I0|apply D7);(·exact hC);(try rintro _ _ ⟨rfl,rfl⟩))|((with_reducible apply I8);(·exact hC))|((with_reducible apply H8);refine st ?_;(with_reducible apply I5);(·exact rfl);refine st ?_;(with_reducible apply D7);(·exact hC);(try rintro _ _ ⟨rfl,rfl⟩))|(with_reducible first|apply A5|apply A4)<;>intro _
   refine⟨k,?_,rfl,rfl,by omega,by omega,.inl (by omega)⟩
   rw[show((k+1:Nat):Int)-1=k by omega]
  ·have hqb:q=b:=by omega
   subst hqb
   repeat' first|refine st ?_|(with_reducible first|apply A5|apply A4)<;>intro _
   all_goals exact⟨rfl,rfl⟩
theorem C0t(s:St)(h:s.x.ok)(hc:G7 s.c)(k:Int):B5 Tryz.prog A9h [s.av,.ptr 0 0] [.cells [.d (eI k)]] (λr os=>r=.tup []/\os=[.cells [.d (eI (R6 s.x.t s.c k))]]):=by
 have hI:=C1e s.x.t s.x.dc s.x.dk s.x.df s.x.dx h.tok s.c hc k
 obtain⟨q,hq⟩:∃q,q=R6 s.x.t s.c k:=⟨_,rfl⟩
 rw[<- hq] at hI ⊢
 clear hq h
 obtain⟨⟨⟨nm,cs,ks,fs,xs⟩,dc,dk,df,dx⟩,y,⟨ck,cnm,to,⟨cn,cck,cl⟩,⟨vk,vn,vs⟩⟩⟩:=s
 refine C3E.goX A6 rfl ?_
 repeat' first|refine st ?_|((with_reducible first|apply A8|apply A7);(·exact hI))|(with_reducible first|apply A5|apply A4)<;>intro _
 all_goals exact⟨rfl,rfl⟩
def Z7(t:Tb)(c:Ch)(k:Int):Int:=if c.k=1/\k=(t.cs.length:Int) then -1 else if c.k=2/\D6 c.nm t.cs<=k then k+1 else k
def bkI(s:St)(k:Int):Int:=Z7 s.x.t s.c k
theorem C96(s:St)(k:Int):bkI s k=if s.c.k=1/\k=plI s.x.t s.c then -1 else if s.c.k=2/\plI s.x.t s.c<=k then k+1 else k:=by
 unfold bkI Z7 plI
 by_cases h1:s.c.k=1
 ·simp only[h1,if_pos,true_and]
  split
  ·rfl
  ·rw[if_neg (by omega),if_neg (by omega)]
 ·simp only[h1,false_and,if_false]
theorem C0u(s:St)(h:s.x.ok)(k:Int)(hk:k<=4611686018427387904)(hk0:-4611686018427387904<=k):B5 Tryz.prog A9i [s.av,.ptr 0 0] [.cells [.d (eI k)]] (λr os=>r=.tup []/\os=[.cells [.d (eI (bkI s k))]]):=by
 have hP:=A8z s h
 obtain⟨q,hq⟩:∃q,q=bkI s k:=⟨_,rfl⟩
 rw[<- hq]
 rw[C96] at hq
 obtain⟨p,hp⟩:∃q,q=plI s.x.t s.c:=⟨_,rfl⟩
 rw[<- hp] at hP hq
 clear hp h
 obtain⟨⟨⟨nm,cs,ks,fs,xs⟩,dc,dk,df,dx⟩,y,⟨ck,cnm,to,⟨cn,cck,cl⟩,⟨vk,vn,vs⟩⟩⟩:=s
 dsimp only at hq
 refine C3F.goX A6 rfl ?_
 by_cases h1:ck=1
 ·subst h1
  by_cases h2:k=p
  ·rw[if_pos ⟨rfl,h2⟩] at hq
   subst hq
   repeat' first|refine st ?_|((with_reducible first|apply A8|apply A7);(·exact hP))|(with_reducible first|apply A5|apply A4)<;>intro _
   all_goals exact⟨rfl,rfl⟩
  ·rw[if_neg (λe=>h2 e.2),if_neg (by omega)] at hq
   subst hq
   repeat' first|refine st ?_|((with_reducible first|apply A8|apply A7);(·exact hP))|(with_reducible first|apply A5|apply A4)<;>intro _
   all_goals exact⟨rfl,rfl⟩
 ·rw[if_neg (λe=>h1 e.1)] at hq
  by_cases h2:ck=2
  ·subst h2
   by_cases h3:p<=k
   ·rw[if_pos ⟨rfl,h3⟩] at hq
    subst hq
    repeat' first|refine st ?_|((with_reducible first|apply A8|apply A7);(·exact hP))|(with_reducible first|apply A5|apply A4)<;>intro _
    all_goals exact⟨rfl,rfl⟩
   ·rw[if_neg (λe=>h3 e.2)] at hq
    subst hq
    repeat' first|refine st ?_|((with_reducible first|apply A8|apply A7);(·exact hP))|(with_reducible first|apply A5|apply A4)<;>intro _
    all_goals exact⟨rfl,rfl⟩
  ·rw[if_neg (λe=>h2 e.1)] at hq
   subst hq
   repeat' first|refine st ?_|((with_reducible first|apply A8|apply A7);(·exact hP))|(with_reducible first|apply A5|apply A4)<;>intro _
   all_goals exact⟨rfl,rfl⟩
def S3(S:List St)(k:Int):Int:=S.foldl (λk s=>R6 s.x.t s.c k) k
def T8(S:List St)(k:Int):Int:=S.foldr (λs k=>bkI s k) k
theorem B0t(S:List St)(a p:Nat)(s:St)(k:Int)(hap:a<=p)(h:S[p]?=some s):S3 ((S.drop a).take (p+1-a)) k=R6 s.x.t s.c (S3 ((S.drop a).take (p-a)) k):=by
 have e:(S.drop a)[p-a]?=some s:=by rw[A03,show a+(p-a)=p by omega];exact h
 unfold S3
 rw[show p+1-a=(p-a)+1 by omega,Q9,e,A2I]
 rfl
theorem A9S(S:List St)(a p:Nat)(s:St)(k:Int)(hpa:p<a)(h:S[p]?=some s):T8 ((S.drop p).take (a-p)) k=bkI s (T8 ((S.drop (p+1)).take (a-(p+1))) k):=by
 obtain⟨hlt,he⟩:=B3.1 h
 rw[S5 hlt,he,show a-p=(a-(p+1))+1 by omega,A2Q]
 rfl
theorem D0V(t:Tb)(c:Ch)(k:Int)(h0:-1<=k):-1<=R6 t c k/\R6 t c k<=max k 0:=by
 unfold R6
 split
 ·omega
 ·split
  ·omega
  ·split
   ·omega
   ·rename_i h1 h2 h3
    unfold B0
    split<;>omega
theorem B81:∀(S:List St)(k:Int),-1<=k->-1<=S3 S k/\S3 S k<=max k 0
 |[],k,h=>by unfold S3;simp only[List.foldl_nil];omega
 |s::r,k,h=>by
  have h1:=D0V s.x.t s.c k h
  have h2:=B81 r (R6 s.x.t s.c k) h1.1
  unfold S3 at h2 ⊢
  rw[A2J]
  omega
theorem A9R:∀(S:List St)(k:Int),-1<=k->-1<=T8 S k/\T8 S k<=k+S.length
 |[],k,h=>by unfold T8;simp only[List.foldr_nil,P9];omega
 |s::r,k,h=>by
  have h2:=A9R r k h
  have h3:∀w,-1<=w->w<=k+r.length->-1<=bkI s w/\bkI s w<=k+(r.length+1:Nat):=by
   intro w w1 w2
   unfold bkI Z7
   split
   ·omega
   ·split<;>omega
  exact h3 _ h2.1 h2.2
def y0(x:TD)(l:List Ch)(a b k:Int):Int:=
 if O0 x l=false\/a<0\/b<0\/(l.length:Int)<a\/(l.length:Int)<b\/k<0\/((I3 x (l.take a.toNat)).t.cs.length:Int)<=k then -1
 else if a<=b then S3 (((J3 x l).drop a.toNat).take (b.toNat-a.toNat)) k else T8 (((J3 x l).drop b.toNat).take (a.toNat-b.toNat)) k
theorem B8n{f1 f2:FuncId}{d x y u v:D}(h:B5 Tryz.prog A79 [.d d,.d x,.d y,.clo f1 [0],.clo f2 [0]] [.cells [.d u]] (λr os=>r=.tup []/\os=[.cells [.d v]])){os:List AO}{id:Nat}(ho:os[id]?=some (.cells [.d u])) :
  B5 Tryz.prog A79 [.d d,.d x,.d y,.clo f1 [id],.clo f2 [id]] os (λr os'=>r=.tup []/\os'=os.set id (.cells [.d v])):=by
 have:=B5.frame (K:=λr' os'=>r'=.tup []/\os'=os.set id (.cells [.d v])) h [id] os rfl (by simp) (λi o hx=>?_) (λz hz=>?_) (λo hx=>?_) ?_
 ·exact this
 ·cases i with
  |zero=>simp at hx;subst hx;exact ho
  |succ i=>simp at hx
 ·simp only[I9,m5,or_false] at hz
  rcases hz with rfl|rfl|rfl|rfl|rfl<;>simp[AV.bnd2,AV.bnd1]
 ·cases A0X.1 hx
  simp[AO.bnd,AV.bnd1]
 ·rintro _ _ ⟨rfl,rfl⟩
  refine⟨rfl,?_⟩
  simp[S9,mO,mC]
theorem B9S(x:TD)(l:List Ch)(a:Nat)(ha:a<=l.length):(v8 x l)[a]?=some (I3 x (l.take a)).cp:=by
 unfold v8
 cases a with
 |zero=>rfl
 |succ i=>
  have hc:l[i]?=some (l[i]'(by omega)):=C8 (by omega)
  rw[j0,G4,v7 (x:=x) hc,A8e hc,A5p]
  rfl
theorem B1L(x:TD)(h:x.ok)(l:List Ch)(hl:l.length<=1048576)(hls:∀c∈l,G7 c)(d:D)(hd:B8 d (M9 l))(a b k:Int) :
  Pure Tryz.prog A9g [x.av,.d d,.d (eI a),.d (eI b),.d (eI k)] (.d (eI (y0 x l a b k))):=by
 have hS:=A8A x h l hl hls d hd
 have hT:=B1O x h l hl hls d hd
 have h1:=A1L l
 obtain⟨q,hq⟩:∃q,q=y0 x l a b k:=⟨_,rfl⟩
 rw[<- hq]
 unfold y0 at hq
 unfold A6l at hT
 obtain⟨es,hes⟩:∃es,es=M9 l:=⟨_,rfl⟩
 rw[<- hes] at h1 hd
 cases hb:O0 x l with
 |false=>
  rw[hb] at hS hT hq
  rw[if_neg (by decide)] at hS hT
  rw[if_pos (.inl rfl)] at hq
  subst hq
  clear hb hd h
  obtain⟨⟨nm,cs,ks,fs,xs⟩,dc,dk,df,dx⟩:=x
  refine A29.go A6 rfl ?_
  repeat' first|refine st ?_|((with_reducible first|apply A8|apply A7);(·exact hS))|(with_reducible first|apply A5|apply A4)<;>intro _
  all_goals rfl
 |true=>
  rw[hb] at hS hT hq
  rw[if_pos rfl] at hS hT
  have hbs:K8 x.t=0/\M3 x l=true:=by
   unfold O0 at hb
   rw[L2] at hb
   exact⟨of_decide_eq_true hb.1,hb.2⟩
  simp only[A4A,false_or] at hq
  by_cases g1:a<0
  ·rw[if_pos (.inl g1)] at hq
   subst hq
   clear hb hd h
   obtain⟨⟨nm,cs,ks,fs,xs⟩,dc,dk,df,dx⟩:=x
   refine A29.go A6 rfl ?_
   repeat' first|refine st ?_|((with_reducible first|apply A8|apply A7);(·exact hS))|(with_reducible first|apply A5|apply A4)<;>intro _
   all_goals rfl
  by_cases g2:b<0
  ·rw[if_pos (.inr (.inl g2))] at hq
   subst hq
   clear hb hd h
   obtain⟨⟨nm,cs,ks,fs,xs⟩,dc,dk,df,dx⟩:=x
   refine A29.go A6 rfl ?_
   repeat' first|refine st ?_|((with_reducible first|apply A8|apply A7);(·exact hS))|(with_reducible first|apply A5|apply A4)<;>intro _
   all_goals rfl
  by_cases g3:(l.length:Int)<a
  ·rw[if_pos (.inr (.inr (.inl g3)))] at hq
   subst hq
   have g3':(es.length:Int)<a:=by omega
   clear hb h
   obtain⟨⟨nm,cs,ks,fs,xs⟩,dc,dk,df,dx⟩:=x
   refine A29.go A6 rfl ?_
   repeat' first|refine st ?_|((with_reducible first|apply A8|apply A7);(·exact hS))|(with_reducible first|apply A5|apply A4)<;>intro _
   all_goals rfl
  by_cases g4:(l.length:Int)<b
  ·rw[if_pos (.inr (.inr (.inr (.inl g4))))] at hq
   subst hq
   have g4':(es.length:Int)<b:=by omega
   clear hb h
   obtain⟨⟨nm,cs,ks,fs,xs⟩,dc,dk,df,dx⟩:=x
   refine A29.go A6 rfl ?_
   repeat' first|refine st ?_|((with_reducible first|apply A8|apply A7);(·exact hS))|(with_reducible first|apply A5|apply A4)<;>intro _
   all_goals rfl
  by_cases g5:k<0
  ·rw[if_pos (.inr (.inr (.inr (.inr (.inl g5)))))] at hq
   subst hq
   clear hb h
   obtain⟨⟨nm,cs,ks,fs,xs⟩,dc,dk,df,dx⟩:=x
   refine A29.go A6 rfl ?_
   repeat' first|refine st ?_|((with_reducible first|apply A8|apply A7);(·exact hS))|(with_reducible first|apply A5|apply A4)<;>intro _
   all_goals rfl
  obtain⟨a,rfl⟩:∃n:Nat,a=n:=⟨a.toNat,by omega⟩
  obtain⟨b,rfl⟩:∃n:Nat,b=n:=⟨b.toNat,by omega⟩
  have ga:a<=l.length:=by omega
  have gb:b<=l.length:=by omega
  rw[G8,G8] at hq
  have hv:=A5w (B9S x l a ga)
  have hvok:=TD.cp_ok (A33 (l.take a) h λc hc=>hls c (W3 hc))
  have hvl:(I3 x (l.take a)).cp.t.cs.length=(I3 x (l.take a)).t.cs.length:=rfl
  have hvd:=hvok.tok.dc
  have hvn:=F4 (I3 x (l.take a)).cp.t.cs
  have hvb:=hvok.tok.hl
  rw[<- hvl] at hq
  have hTl:=A41 (v8 x l)
  have hTm:=A37 (v8 x l)
  have hTl2:(v8 x l).length=l.length+1:=by unfold v8;rw[I7,D5,A22]
  obtain⟨v,hvv⟩:∃v,v=(I3 x (l.take a)).cp:=⟨_,rfl⟩
  rw[<- hvv] at hv hvd hvn hq hvb
  obtain⟨Ts,hTs⟩:∃z,z=V4 (v8 x l):=⟨_,rfl⟩
  rw[<- hTs] at hT hv hTl hTm
  have hv2:Ts[((a:Nat):Int).toNat]?=_:=hv
  have ht1:(a:Int)<Ts.length:=by omega
  by_cases g6:(v.t.cs.length:Int)<=k
  ·rw[if_pos (.inr (.inr (.inr (.inr (.inr g6)))))] at hq
   subst hq
   obtain⟨Cv,hCv⟩:∃z,z=B2 v.t.cs:=⟨_,rfl⟩
   rw[<- hCv] at hvd hvn
   clear hb h hbs
   obtain⟨⟨nm,cs,ks,fs,xs⟩,dc,dk,df,dx⟩:=x
   refine A29.go A6 rfl ?_
   repeat' first|refine st ?_|((with_reducible first|apply A8|apply A7);(·first|exact hS|exact hT))|(with_reducible first|apply A5|apply A4)<;>intro _
   all_goals rfl
  ·rw[if_neg (by omega)] at hq
   have hSl:=A22 l x
   obtain⟨S,hSS⟩:∃S,S=J3 x l:=⟨_,rfl⟩
   rw[<- hSS] at hS hSl hq
   have hSg:∀(i:Nat) s,S[i]?=some s->s.x.ok/\G7 s.c:=λi s hs=>by
    have hi:=(B3.1 hs).1
    have hc:l[i]?=some (l[i]'(by omega)):=C8 (by omega)
    have h2:=v7 (x:=x) hc
    rw[<- hSS,hs] at h2
    rw[j7 h2]
    exact⟨A33 _ h λc hc=>hls c (W3 hc),hls _ (A0U _)⟩
   have hsd:B8 (C2 (P6 S).isEmpty (P6 S)) (P6 S):=p9 λe=>A2L.1 e
   obtain⟨sd,hsd0⟩:∃z,z=C2 (P6 S).isEmpty (P6 S):=⟨_,rfl⟩
   rw[<- hsd0] at hS hsd
   obtain⟨z,hz⟩:∃z:Nat->D,z=λp=>if a<=p then eI (S3 ((S.drop a).take (p-a)) k) else eI (T8 ((S.drop p).take (a-p)) k):=⟨_,rfl⟩
   have hza:z a=eI k:=by rw[hz];simp[S3]
   have hzf:∀p,a<=p->z p=eI (S3 ((S.drop a).take (p-a)) k):=λp hp=>by rw[hz];simp[hp]
   have hzb:∀p,p<=a->z p=eI (T8 ((S.drop p).take (a-p)) k):=λp hp=>by
    rw[hz]
    by_cases e:p=a
    ·subst e;simp[S3,T8]
    ·simp[show ¬a<=p by omega]
   have hW:=B1R A9h A9i S (by omega) sd hsd a b (by omega) (by omega) z (λi s h1 h2 h3=>by
     rw[hzf i h1,hzf (i+1) (by omega),B0t S a i s k h1 h3]
     exact C0t s (hSg i s h3).1 (hSg i s h3).2 _) (λi s h1 h2 h3=>by
     rw[hzb i (by omega),hzb (i+1) (by omega),A9S S a i s k h2 h3]
     have hb1:=A9R ((S.drop (i+1)).take (a-(i+1))) k (by omega)
     have hb2:((S.drop (i+1)).take (a-(i+1))).length<=1048576:=O9 (A6V ..) (by omega)
     exact C0u s (hSg i s h3).1 _ (by omega) (by omega))
   have hzr:z b=eI q:=by
    rw[hq]
    by_cases hab:(a:Int)<=b
    ·rw[if_pos hab,hzf b (by omega)]
    ·rw[if_neg hab,hzb b (by omega)]
   rw[hza,hzr] at hW
   have hL:=fun {os:List AO} (ho:os[1]?=some (.cells [.d (eI k)]))=>B8n (id:=1) hW ho
   have g6':k<(B2 v.t.cs).length:=by omega
   obtain⟨Cv,hCv⟩:∃z,z=B2 v.t.cs:=⟨_,rfl⟩
   rw[<- hCv] at hvd hvn g6'
   clear hb h hbs hW hzf hzb hz hza hzr hq hSS hsd0
   obtain⟨⟨nm,cs,ks,fs,xs⟩,dc,dk,df,dx⟩:=x
   refine A29.go A6 rfl ?_
   repeat' first|refine st ?_|((with_reducible first|apply A8|apply A7);(·first|exact hS|exact hT))|((with_reducible first|apply I0|apply D7);(·exact hL rfl);(try rintro _ _ ⟨rfl,rfl⟩))|((with_reducible apply I8);(·exact hL rfl))|((with_reducible apply H8);refine st ?_;(with_reducible apply I5);(·exact rfl);refine st ?_;(with_reducible apply D7);(·exact hL rfl);(try rintro _ _ ⟨rfl,rfl⟩))|(with_reducible first|apply A5|apply A4)<;>intro _
   all_goals rfl
end Go.Proofs
end
